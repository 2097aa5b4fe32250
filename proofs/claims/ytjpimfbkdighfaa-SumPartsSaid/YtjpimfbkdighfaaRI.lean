import Derived.Test.YtjpimfbkdighfaaSK
import Derived.Test.YtjpimfbkdighfaaR
namespace Go.Proofs.Ytjpimfbkdighfaa
open Go.RowKit

theorem cfRootR (args : Array Value) (w : World) : (callFunc 15 args).run Try.prog w = .ok (.enter 15 args) w := by kernel_rfl
theorem cfOneR (args : Array Value) (w : World) : (callFunc 17 args).run Try.prog w = .ok (.enter 17 args) w := by kernel_rfl

set_option maxRecDepth 100000 in
set_option maxHeartbeats 4000000 in
theorem rootStepR (l : List (List Nat)) (v : Value) (w : World) (hl2 : 2 ≤ l.length) (hl : l.length ≤ 2000) (hv : Hs w v l)
    (ih : ∀ l' v' w', l'.length < l.length → Hs w' v' l' → Calls Try.prog 15 #[v'] w' fun e w'' => e = .returned (.agg (u8s (root l')).toArray) ∧ Qt w' w'') :
    Calls Try.prog 15 #[v] w fun e w' => e = .returned (.agg (u8s (root l)).toArray) ∧ Qt w w' := by
  obtain ⟨n, hn⟩ : ∃ n, n = l.length := ⟨_, rfl⟩
  obtain ⟨k, hk⟩ : ∃ k, k = Nat.log2 (n - 1) := ⟨_, rfl⟩
  have hk32 : k < 32 := by rw [hk]; exact log2_lt (by omega)
  obtain ⟨b, off, c, rfl, hc⟩ : ∃ b off c, v = .slice (some ⟨b, off, none⟩) n c ∧ n ≤ c := by
    obtain ⟨a, c, rfl, hc, h0 | ⟨b, off, rfl, hx⟩⟩ := hv.rd
    · have h1 := hv.len
      cases l with
      | nil => simp at hl2
      | cons a l => 
        have := h1 a (by simp)
        exact absurd (congrArg List.length h0) (by simp [u8s, this])
    · exact ⟨b, off, c, by rw [hn], by omega⟩
  obtain ⟨m, hm⟩ : ∃ m, m = half l.length := ⟨_, rfl⟩
  have hm1 : 0 < m := by rw [hm]; exact half_pos _
  have hm2 : m < n := by rw [hm, hn]; exact half_lt (by omega)
  have hmk : m = 2 ^ k := by rw [hm, half, ← hn, ← hk]
  have hp1 : 2 ^ k ≤ n - 1 := by rw [hk]; exact Nat.log2_self_le (by omega)
  have hp2 : n - 1 < 2 ^ (k + 1) := by rw [hk]; exact Nat.lt_log2_self
  have HMK := Lib.hid hmk
  have HP1 := Lib.hid hp1
  have HP2 := Lib.hid hp2
  clear hmk hp1 hp2
  have hw1 := ih (l.take m) (.slice (some ⟨b, off, none⟩) m c)
  have hw2 := ih (l.drop m) (.slice (some ⟨b, off + m * 32, none⟩) (n - m) (c - m))
  have hcell : ∀ j u, (u8s l.flatten)[j]? = some u → w.cell? ⟨b, off + j, none⟩ = some u := by
    obtain ⟨a', c', hv', _, h0 | ⟨b', off', hb', hx⟩⟩ := hv.rd
    · rw [h0]; intro j u hu; simp at hu
    · cases hv'; cases hb'; exact hx
  have hflat : ∀ q, q ≤ l.length → (l.take q).flatten = l.flatten.take (q * 32) ∧ (l.drop q).flatten = l.flatten.drop (q * 32) := fun q hq => flat_cut l hv.len q hq
  have hs1 : Hs w (.slice (some ⟨b, off, none⟩) m c) (l.take m) := by
    refine ⟨⟨_, _, by rw [List.length_take, Nat.min_eq_left (by omega)], by rw [List.length_take]; omega, .inr ⟨b, off, rfl, fun j u hu => hcell j u ?_⟩⟩, fun h hh => hv.len h (List.mem_of_mem_take hh), fun h hh => hv.lt h (List.mem_of_mem_take hh)⟩
    rw [(hflat m (by omega)).1, u8s, List.map_take, List.getElem?_take] at hu
    split at hu
    · exact hu
    · cases hu
  have hs2 : Hs w (.slice (some ⟨b, off + m * 32, none⟩) (n - m) (c - m)) (l.drop m) := by
    refine ⟨⟨_, _, by rw [List.length_drop, hn], by rw [List.length_drop]; omega, .inr ⟨b, off + m * 32, rfl, fun j u hu => ?_⟩⟩, fun h hh => hv.len h (List.mem_of_mem_drop hh), fun h hh => hv.lt h (List.mem_of_mem_drop hh)⟩
    rw [(hflat m (by omega)).2, u8s, List.map_drop, List.getElem?_drop] at hu
    rw [Nat.add_assoc]; exact hcell _ u hu
  have hc1 : ∀ w1, Qt w w1 → Calls Try.prog 15 #[.slice (some ⟨b, off, none⟩) m c] w1 fun e w'' => e = .returned (.agg (u8s (root (l.take m))).toArray) ∧ Qt w1 w'' := fun w1 q => hw1 w1 (by rw [List.length_take]; omega) (hs1.below q)
  have hc2 : ∀ w1, Qt w w1 → Calls Try.prog 15 #[.slice (some ⟨b, off + m * 32, none⟩) (n - m) (c - m)] w1 fun e w'' => e = .returned (.agg (u8s (root (l.drop m))).toArray) ∧ Qt w1 w'' := fun w1 q => hw2 w1 (by rw [List.length_drop]; omega) (hs2.below q)
  have hroot : root l = sha ([2] ++ root (l.take m) ++ root (l.drop m)) := by rw [hm]; exact root_more (by omega)
  have hl1 := root_len (l.take m)
  have hl2' := root_len (l.drop m)
  have ht1 := root_lt (l.take m)
  have ht2 := root_lt (l.drop m)
  generalize root (l.take m) = r1 at *
  generalize root (l.drop m) = r2 at *
  have HROOT := Lib.hid hroot
  have HL1 := Lib.hid hl1
  have HL2 := Lib.hid hl2'
  have HT1 := Lib.hid ht1
  have HT2 := Lib.hid ht2
  have HC1 := Lib.hid hc1
  have HC2 := Lib.hid hc2
  clear hw1 hw2 hcell hflat hs1 hs2 hc1 hc2 hroot hl1 hl2' ht1 ht2 hm ih hv
  have HK := Lib.hid hk
  have HN := Lib.hid hn
  have hn2 : 2 ≤ n := by omega
  have hn3 : n ≤ 2000 := by omega
  clear hk hn hl2 hl
  have hq : ((n : Int) == 0) = false := by rw [beq_eq_false_iff_ne]; omega
  have hq2 : ((n : Int) == 1) = false := by rw [beq_eq_false_iff_ne]; omega
  go_enter Try.func15, Try.ntmps15
  obtain ⟨i0, hi0, hz0, hz1, hz2⟩ := info_parts (P := Try.prog) (e := 5) (z := .int .u8 0) (size := 1) (bytes := 1) (by kernel_rfl)
  have HJ0 := Lib.hid hi0
  have HY0 := Lib.hid hz0
  have HY1 := Lib.hid hz1
  have HY2 := Lib.hid hz2
  clear hi0 hz0 hz1 hz2
  go_wp2_with fail
  go_loop [3] (fun x => ∃ j p : Nat, j ≤ k ∧ p = 2 ^ j ∧ p ≤ 2000 ∧ x = .int .i64 (p : Nat)) (fun x => n - (intOf x).toNat)
  case atStart => exact ⟨0, 1, Nat.zero_le _, rfl, by omega, rfl⟩
  case round =>
    obtain ⟨j, p, hj, hp, hp2000, rfl⟩ := hrel
    have HPJ := Lib.hid hp; clear hp
    by_cases hjk : j < k
    · have h2 : 2 ^ (j + 1) ≤ 2 ^ k := Nat.pow_le_pow_right (by decide) hjk
      have hlt : p * 2 < n := by have e1 := HPJ.out; have e2 := HP1.out; rw [Nat.pow_succ, ← e1] at h2; omega
      have hp0 : 0 < p := by rw [HPJ.out]; exact Nat.two_pow_pos _
      have hlt2 : (p : Int) * 2 < (n : Int) := by omega
      clear h2
      go_wp2
      go_round
      case rel => exact ⟨j + 1, p * 2, hjk, by rw [Nat.pow_succ, HPJ.out], by omega, by go_num⟩
      case measure => simp [intOf]; omega
    · obtain rfl : j = k := by omega
      obtain rfl : p = m := by rw [HPJ.out, HMK.out]
      have hge : ¬ (p : Int) * 2 < (n : Int) := by have e1 := HPJ.out; have e2 := HP2.out; rw [Nat.pow_succ, ← e1] at e2; omega
      have i1 : (0 : Int) ≤ (p : Int) := by omega
      have i2 : (p : Int) ≤ (n : Int) := by omega
      have i3 : (p : Int) ≤ (c : Int) := by omega
      have i4 : ¬ c = p := by omega
      have hcf : ∀ args w, (callFunc 15 args).run Try.prog w = .ok (.enter 15 args) w := cfRootR
      have halloc : ∀ w, (Instr.alloc 27 true (.tuple #[])).run Try.prog w = .ok (.pointer (some ⟨w.heap.size, 0, none⟩)) (w.alloc (.cells (u8s (List.replicate 32 0)).toArray 27 (0, 0))) := allocHash
      have HS1 := Lib.hid (sz32 r1 HL1.out)
      have HS2 := Lib.hid (sz32 r2 HL2.out)
      have HZ1 := Lib.hid (sz32z r1 HL1.out)
      have HZ2 := Lib.hid (sz32z r2 HL2.out)
      have HU1 := Lib.hid (u8s_one r1)
      have HU2 := Lib.hid (u8s_one r2)
      go_wp2_with fail
      go_cut [4, 5] (fun x y wx => ∃ gA gB, x = .pointer (some ⟨gA, 0, none⟩) ∧ y = .pointer (some ⟨gB, 0, none⟩) ∧ Own1 w w.heap.size 27 (u8s (List.replicate 32 0)) wx ∧ wx.heap[gA]? = some (.cells (u8s r1).toArray 27 (0, 0)) ∧ wx.heap[gB]? = some (.cells (u8s r2).toArray 27 (0, 0)))
      case first =>
        refine wp_region_any (by kernel_rfl) ?_
        change wpAny _ _ _ _ _ _ _ (World.drew _)
        refine wpAny_take (i := 0) (oi := { dst := some 27, op := Go.Op.move (Go.Operand.tmp 0), type := 32, pos := "ref.go:164", after := #[], guard := none }) (v := Value.slice (some ⟨b, off, none⟩) n c) rfl (by kernel_rfl) (by kernel_rfl) (by kernel_rfl) (fun _ _ _ h => h) (Or.inl ⟨by rfl, fun w => by go_simp⟩) ?_
        refine wpAny_take (i := 1) (oi := { dst := some 28, op := Go.Op.move (Go.Operand.tmp 3), type := 3, pos := "ref.go:164", after := #[], guard := none }) (v := Value.int .i64 (p : Int)) rfl (by kernel_rfl) (by kernel_rfl) (by kernel_rfl) (fun _ _ _ h => h) (Or.inl ⟨by rfl, fun w => by go_simp⟩) ?_
        refine wpAny_take (i := 2) (oi := { dst := some 29, op := Go.Op.slice 32 (Go.Operand.tmp 27) none (some (Go.Operand.tmp 28)) none, type := 32, pos := "ref.go:164", after := #[{ on := 0, ground := Go.Ground.data }, { on := 1, ground := Go.Ground.data }], guard := none }) (v := Value.slice (some ⟨b, off, none⟩) p c) rfl (by kernel_rfl) (by kernel_rfl) (by kernel_rfl) (fun _ _ _ h => h) (Or.inl ⟨by rfl, fun w => by go_simp⟩) ?_
        refine wpAny_take (i := 4) (oi := { dst := some 31, op := Go.Op.move (Go.Operand.tmp 0), type := 32, pos := "ref.go:164", after := #[], guard := none }) (v := Value.slice (some ⟨b, off, none⟩) n c) rfl (by kernel_rfl) (by kernel_rfl) (by kernel_rfl) (fun _ _ _ h => h) (Or.inl ⟨by rfl, fun w => by go_simp⟩) ?_
        refine wpAny_take (i := 5) (oi := { dst := some 32, op := Go.Op.move (Go.Operand.tmp 3), type := 3, pos := "ref.go:164", after := #[], guard := none }) (v := Value.int .i64 (p : Int)) rfl (by kernel_rfl) (by kernel_rfl) (by kernel_rfl) (fun _ _ _ h => h) (Or.inl ⟨by rfl, fun w => by go_simp⟩) ?_
        refine wpAny_take (i := 6) (oi := { dst := some 33, op := Go.Op.slice 32 (Go.Operand.tmp 31) (some (Go.Operand.tmp 32)) none none, type := 32, pos := "ref.go:164", after := #[{ on := 4, ground := Go.Ground.data }, { on := 5, ground := Go.Ground.data }], guard := none }) (v := Value.slice (some ⟨b, off + p * 32, none⟩) (n - p) (c - p)) rfl (by kernel_rfl) (by kernel_rfl) (by kernel_rfl) (fun _ _ _ h => h) (Or.inl ⟨by rfl, fun w => by go_simp⟩) ?_
        refine gen_frame fun F0 hA => ?_
        have e29_0 : F0.eval (.tmp 29) = Value.slice (some ⟨b, off, none⟩) p c := by rw [hA]; simp [Act.put, Act.eval]
        have e33_0 : F0.eval (.tmp 33) = Value.slice (some ⟨b, off + p * 32, none⟩) (n - p) (c - p) := by rw [hA]; simp [Act.put, Act.eval]
        have z0 : F0.tmps.size = 41 := by rw [hA]; simp [Act.put]
        have hF0 := Lib.hid hA
        clear hA
        generalize hW : World.drew _ = W0
        have HR := Lib.hid (show Own1 w w.heap.size 27 (u8s (List.replicate 32 0)) W0 from by rw [← hW]; exact (Own1.res w).drew)
        have HQ1 := Lib.hid (show Qt w W0 from HR.out.bel)
        have Q0 := Qt.refl W0
        clear hW
        refine wpAny_ready (rs := [3, 8, 9]) (by kernel_rfl) (by simp) ?_
        refine AllReady.cons (o := { dst := some 30, op := Go.Op.call { callee := Go.Callee.value (Go.Operand.func 15), args := #[Go.Operand.tmp 29], argTypes := #[32] }, type := 27, pos := "ref.go:164", after := #[{ on := 2, ground := Go.Ground.data }], guard := none }) rfl (fun K hK => ?_) ?_
        · refine st_call1 (by rfl) 15 (.tmp 29) 32 (by rfl) (.slice (some ⟨b, off, none⟩) p c) e29_0 (hcf _) _ (Qt W0) (HC1.out _ (HQ1.out.trans Q0)) ?_
          intro W1 q1
          have Q1 := Q0.trans q1
          refine hK _ _ ?_
          clear hK K
          refine gen_frame fun F1 hA => ?_
          have hF : F1 = F0.put (some 30) (.agg (u8s r1).toArray) := hA
          have hF1 := Lib.hid hF
          have e29_1 : F1.eval (.tmp 29) = Value.slice (some ⟨b, off, none⟩) p c := by rw [hF, ev_other (by decide)]; exact e29_0
          have e33_1 : F1.eval (.tmp 33) = Value.slice (some ⟨b, off + p * 32, none⟩) (n - p) (c - p) := by rw [hF, ev_other (by decide)]; exact e33_0
          have e30_1 : F1.eval (.tmp 30) = (.agg (u8s r1).toArray) := by rw [hF]; exact ev_same (by rw [z0]; decide)
          have z1 : F1.tmps.size = 41 := by rw [hF, put_size]; exact z0
          clear hF hA
          refine wpAny_ready (rs := [7, 8, 9]) (by kernel_rfl) (by simp) ?_
          refine AllReady.cons (o := { dst := some 34, op := Go.Op.call { callee := Go.Callee.value (Go.Operand.func 15), args := #[Go.Operand.tmp 33], argTypes := #[32] }, type := 27, pos := "ref.go:164", after := #[{ on := 6, ground := Go.Ground.data }, { on := 3, ground := Go.Ground.chain }], guard := none }) rfl (fun K hK => ?_) ?_
          · refine st_call1 (by rfl) 15 (.tmp 33) 32 (by rfl) (.slice (some ⟨b, off + p * 32, none⟩) (n - p) (c - p)) e33_1 (hcf _) _ (Qt W1) (HC2.out _ (HQ1.out.trans Q1)) ?_
            intro W2 q2
            have Q2 := Q1.trans q2
            refine hK _ _ ?_
            clear hK K
            refine gen_frame fun F2 hA => ?_
            have hF : F2 = F1.put (some 34) (.agg (u8s r2).toArray) := hA
            have hF2 := Lib.hid hF
            have e29_2 : F2.eval (.tmp 29) = Value.slice (some ⟨b, off, none⟩) p c := by rw [hF, ev_other (by decide)]; exact e29_1
            have e33_2 : F2.eval (.tmp 33) = Value.slice (some ⟨b, off + p * 32, none⟩) (n - p) (c - p) := by rw [hF, ev_other (by decide)]; exact e33_1
            have e30_2 : F2.eval (.tmp 30) = (.agg (u8s r1).toArray) := by rw [hF, ev_other (by decide)]; exact e30_1
            have e34_2 : F2.eval (.tmp 34) = (.agg (u8s r2).toArray) := by rw [hF]; exact ev_same (by rw [z1]; decide)
            have z2 : F2.tmps.size = 41 := by rw [hF, put_size]; exact z1
            clear hF hA
            refine wpAny_ready (rs := [8, 9]) (by kernel_rfl) (by simp) ?_
            refine AllReady.cons (o := { dst := some 4, op := Go.Op.alloc 27, type := 0, pos := "ref.go:164", after := #[], guard := none }) rfl (fun K hK => ?_) ?_
            · refine st_alloc (by rfl) 27 (by rfl) _ halloc ?_
              intro gA W3 q3 lA HA3
              have Q3 := Q2.trans q3
              have bA : W0.heap.size ≤ gA := Nat.le_trans Q2.size lA
              refine hK _ _ ?_
              clear hK K
              refine gen_frame fun F3 hA => ?_
              have hF : F3 = F2.put (some 4) (.pointer (some ⟨gA, 0, none⟩)) := hA
              have hF3 := Lib.hid hF
              have e29_3 : F3.eval (.tmp 29) = Value.slice (some ⟨b, off, none⟩) p c := by rw [hF, ev_other (by decide)]; exact e29_2
              have e33_3 : F3.eval (.tmp 33) = Value.slice (some ⟨b, off + p * 32, none⟩) (n - p) (c - p) := by rw [hF, ev_other (by decide)]; exact e33_2
              have e30_3 : F3.eval (.tmp 30) = (.agg (u8s r1).toArray) := by rw [hF, ev_other (by decide)]; exact e30_2
              have e34_3 : F3.eval (.tmp 34) = (.agg (u8s r2).toArray) := by rw [hF, ev_other (by decide)]; exact e34_2
              have e4_3 : F3.eval (.tmp 4) = (.pointer (some ⟨gA, 0, none⟩)) := by rw [hF]; exact ev_same (by rw [z2]; decide)
              have z3 : F3.tmps.size = 41 := by rw [hF, put_size]; exact z2
              clear hF hA
              refine wpAny_ready (rs := [9]) (by kernel_rfl) (by simp) ?_
              refine AllReady.cons (o := { dst := some 5, op := Go.Op.alloc 27, type := 0, pos := "ref.go:164", after := #[], guard := none }) rfl (fun K hK => ?_) ?_
              · refine st_alloc (by rfl) 27 (by rfl) _ halloc ?_
                intro gB W4 q4 lB HB4
                have Q4 := Q3.trans q4
                have bB : W0.heap.size ≤ gB := Nat.le_trans Q3.size lB
                have HA4 := blk_qt HA3 q4
                have ne : gA ≠ gB := Nat.ne_of_lt (Nat.lt_of_lt_of_le (blk_lt HA3) lB)
                refine hK _ _ ?_
                clear hK K
                refine gen_frame fun F4 hA => ?_
                have hF : F4 = F3.put (some 5) (.pointer (some ⟨gB, 0, none⟩)) := hA
                have hF4 := Lib.hid hF
                have e29_4 : F4.eval (.tmp 29) = Value.slice (some ⟨b, off, none⟩) p c := by rw [hF, ev_other (by decide)]; exact e29_3
                have e33_4 : F4.eval (.tmp 33) = Value.slice (some ⟨b, off + p * 32, none⟩) (n - p) (c - p) := by rw [hF, ev_other (by decide)]; exact e33_3
                have e30_4 : F4.eval (.tmp 30) = (.agg (u8s r1).toArray) := by rw [hF, ev_other (by decide)]; exact e30_3
                have e34_4 : F4.eval (.tmp 34) = (.agg (u8s r2).toArray) := by rw [hF, ev_other (by decide)]; exact e34_3
                have e4_4 : F4.eval (.tmp 4) = (.pointer (some ⟨gA, 0, none⟩)) := by rw [hF, ev_other (by decide)]; exact e4_3
                have e5_4 : F4.eval (.tmp 5) = (.pointer (some ⟨gB, 0, none⟩)) := by rw [hF]; exact ev_same (by rw [z3]; decide)
                have z4 : F4.tmps.size = 41 := by rw [hF, put_size]; exact z3
                clear hF hA
                refine wpAny_ready (rs := [10]) (by kernel_rfl) (by simp) ?_
                refine AllReady.cons (o := { dst := none, op := Go.Op.store 27 (Go.Operand.tmp 4) (Go.Operand.tmp 30), type := 0, pos := "ref.go:164", after := #[{ on := 8, ground := Go.Ground.data }, { on := 3, ground := Go.Ground.data }, { on := 7, ground := Go.Ground.chain }, { on := 0, ground := Go.Ground.phase }, { on := 1, ground := Go.Ground.phase }, { on := 2, ground := Go.Ground.phase }, { on := 3, ground := Go.Ground.phase }, { on := 4, ground := Go.Ground.textOnly Go.Departure.lateStores }, { on := 5, ground := Go.Ground.textOnly Go.Departure.lateStores }, { on := 6, ground := Go.Ground.textOnly Go.Departure.lateStoresUnsure }, { on := 7, ground := Go.Ground.phase }, { on := 8, ground := Go.Ground.phase }, { on := 9, ground := Go.Ground.phase }], guard := none }) rfl (fun K hK => ?_) ?_
                · refine st_store (by rfl) 27 (.tmp 4) (.tmp 30) (by rfl) gA (u8s r1).toArray e4_4 e30_4 27 _ HA4 HS1.out HZ1.out HU1.out ?_
                  intro W5 q5 HA5
                  have Q5 := qt_grown Q4 q5 bA
                  have HB5 := blk_far HB4 q5 (fun e => ne (by rw [e]))
                  refine hK _ _ ?_
                  clear hK K
                  refine gen_frame fun F5 hA => ?_
                  have hF : F5 = F4.put none undef := hA
                  have hF5 := Lib.hid hF
                  have e29_5 : F5.eval (.tmp 29) = Value.slice (some ⟨b, off, none⟩) p c := by rw [hF, ev_none]; exact e29_4
                  have e33_5 : F5.eval (.tmp 33) = Value.slice (some ⟨b, off + p * 32, none⟩) (n - p) (c - p) := by rw [hF, ev_none]; exact e33_4
                  have e30_5 : F5.eval (.tmp 30) = (.agg (u8s r1).toArray) := by rw [hF, ev_none]; exact e30_4
                  have e34_5 : F5.eval (.tmp 34) = (.agg (u8s r2).toArray) := by rw [hF, ev_none]; exact e34_4
                  have e4_5 : F5.eval (.tmp 4) = (.pointer (some ⟨gA, 0, none⟩)) := by rw [hF, ev_none]; exact e4_4
                  have e5_5 : F5.eval (.tmp 5) = (.pointer (some ⟨gB, 0, none⟩)) := by rw [hF, ev_none]; exact e5_4
                  have z5 : F5.tmps.size = 41 := by rw [hF, put_size]; exact z4
                  clear hF hA
                  refine wpAny_ready (rs := [11]) (by kernel_rfl) (by simp) ?_
                  refine AllReady.cons (o := { dst := none, op := Go.Op.store 27 (Go.Operand.tmp 5) (Go.Operand.tmp 34), type := 0, pos := "ref.go:164", after := #[{ on := 9, ground := Go.Ground.data }, { on := 7, ground := Go.Ground.data }, { on := 10, ground := Go.Ground.chain }, { on := 0, ground := Go.Ground.phase }, { on := 1, ground := Go.Ground.phase }, { on := 2, ground := Go.Ground.phase }, { on := 3, ground := Go.Ground.phase }, { on := 4, ground := Go.Ground.phase }, { on := 5, ground := Go.Ground.phase }, { on := 6, ground := Go.Ground.phase }, { on := 7, ground := Go.Ground.phase }, { on := 8, ground := Go.Ground.phase }, { on := 9, ground := Go.Ground.phase }, { on := 10, ground := Go.Ground.phase }], guard := none }) rfl (fun K hK => ?_) ?_
                  · refine st_store (by rfl) 27 (.tmp 5) (.tmp 34) (by rfl) gB (u8s r2).toArray e5_5 e34_5 27 _ HB5 HS2.out HZ2.out HU2.out ?_
                    intro W6 q6 HB6
                    have Q6 := qt_grown Q5 q6 bB
                    have HA6 := blk_far HA5 q6 (fun e => ne (by rw [e]))
                    refine hK _ _ ?_
                    clear hK K
                    refine gen_frame fun F6 hA => ?_
                    have hF : F6 = F5.put none undef := hA
                    have hF6 := Lib.hid hF
                    have e29_6 : F6.eval (.tmp 29) = Value.slice (some ⟨b, off, none⟩) p c := by rw [hF, ev_none]; exact e29_5
                    have e33_6 : F6.eval (.tmp 33) = Value.slice (some ⟨b, off + p * 32, none⟩) (n - p) (c - p) := by rw [hF, ev_none]; exact e33_5
                    have e30_6 : F6.eval (.tmp 30) = (.agg (u8s r1).toArray) := by rw [hF, ev_none]; exact e30_5
                    have e34_6 : F6.eval (.tmp 34) = (.agg (u8s r2).toArray) := by rw [hF, ev_none]; exact e34_5
                    have e4_6 : F6.eval (.tmp 4) = (.pointer (some ⟨gA, 0, none⟩)) := by rw [hF, ev_none]; exact e4_5
                    have e5_6 : F6.eval (.tmp 5) = (.pointer (some ⟨gB, 0, none⟩)) := by rw [hF, ev_none]; exact e5_5
                    have z6 : F6.tmps.size = 41 := by rw [hF, put_size]; exact z5
                    clear hF hA
                    refine wpAny_done (by kernel_rfl) ?_ _
                    rw [hF6.out, hF5.out, hF4.out, hF3.out, hF2.out, hF1.out, hF0.out]
                    go_wp2_with fail
                    go_meet
                    exact ⟨gA, gB, rfl, rfl, HR.out.below Q6, HA6, HB6⟩
                  exact AllReady.nil
                exact AllReady.nil
              exact AllReady.nil
            refine AllReady.cons (o := { dst := some 5, op := Go.Op.alloc 27, type := 0, pos := "ref.go:164", after := #[], guard := none }) rfl (fun K hK => ?_) ?_
            · refine st_alloc (by rfl) 27 (by rfl) _ halloc ?_
              intro gB W3 q3 lB HB3
              have Q3 := Q2.trans q3
              have bB : W0.heap.size ≤ gB := Nat.le_trans Q2.size lB
              refine hK _ _ ?_
              clear hK K
              refine gen_frame fun F3 hA => ?_
              have hF : F3 = F2.put (some 5) (.pointer (some ⟨gB, 0, none⟩)) := hA
              have hF3 := Lib.hid hF
              have e29_3 : F3.eval (.tmp 29) = Value.slice (some ⟨b, off, none⟩) p c := by rw [hF, ev_other (by decide)]; exact e29_2
              have e33_3 : F3.eval (.tmp 33) = Value.slice (some ⟨b, off + p * 32, none⟩) (n - p) (c - p) := by rw [hF, ev_other (by decide)]; exact e33_2
              have e30_3 : F3.eval (.tmp 30) = (.agg (u8s r1).toArray) := by rw [hF, ev_other (by decide)]; exact e30_2
              have e34_3 : F3.eval (.tmp 34) = (.agg (u8s r2).toArray) := by rw [hF, ev_other (by decide)]; exact e34_2
              have e5_3 : F3.eval (.tmp 5) = (.pointer (some ⟨gB, 0, none⟩)) := by rw [hF]; exact ev_same (by rw [z2]; decide)
              have z3 : F3.tmps.size = 41 := by rw [hF, put_size]; exact z2
              clear hF hA
              refine wpAny_ready (rs := [8]) (by kernel_rfl) (by simp) ?_
              refine AllReady.cons (o := { dst := some 4, op := Go.Op.alloc 27, type := 0, pos := "ref.go:164", after := #[], guard := none }) rfl (fun K hK => ?_) ?_
              · refine st_alloc (by rfl) 27 (by rfl) _ halloc ?_
                intro gA W4 q4 lA HA4
                have Q4 := Q3.trans q4
                have bA : W0.heap.size ≤ gA := Nat.le_trans Q3.size lA
                have HB4 := blk_qt HB3 q4
                have ne : gB ≠ gA := Nat.ne_of_lt (Nat.lt_of_lt_of_le (blk_lt HB3) lA)
                refine hK _ _ ?_
                clear hK K
                refine gen_frame fun F4 hA => ?_
                have hF : F4 = F3.put (some 4) (.pointer (some ⟨gA, 0, none⟩)) := hA
                have hF4 := Lib.hid hF
                have e29_4 : F4.eval (.tmp 29) = Value.slice (some ⟨b, off, none⟩) p c := by rw [hF, ev_other (by decide)]; exact e29_3
                have e33_4 : F4.eval (.tmp 33) = Value.slice (some ⟨b, off + p * 32, none⟩) (n - p) (c - p) := by rw [hF, ev_other (by decide)]; exact e33_3
                have e30_4 : F4.eval (.tmp 30) = (.agg (u8s r1).toArray) := by rw [hF, ev_other (by decide)]; exact e30_3
                have e34_4 : F4.eval (.tmp 34) = (.agg (u8s r2).toArray) := by rw [hF, ev_other (by decide)]; exact e34_3
                have e5_4 : F4.eval (.tmp 5) = (.pointer (some ⟨gB, 0, none⟩)) := by rw [hF, ev_other (by decide)]; exact e5_3
                have e4_4 : F4.eval (.tmp 4) = (.pointer (some ⟨gA, 0, none⟩)) := by rw [hF]; exact ev_same (by rw [z3]; decide)
                have z4 : F4.tmps.size = 41 := by rw [hF, put_size]; exact z3
                clear hF hA
                refine wpAny_ready (rs := [10]) (by kernel_rfl) (by simp) ?_
                refine AllReady.cons (o := { dst := none, op := Go.Op.store 27 (Go.Operand.tmp 4) (Go.Operand.tmp 30), type := 0, pos := "ref.go:164", after := #[{ on := 8, ground := Go.Ground.data }, { on := 3, ground := Go.Ground.data }, { on := 7, ground := Go.Ground.chain }, { on := 0, ground := Go.Ground.phase }, { on := 1, ground := Go.Ground.phase }, { on := 2, ground := Go.Ground.phase }, { on := 3, ground := Go.Ground.phase }, { on := 4, ground := Go.Ground.textOnly Go.Departure.lateStores }, { on := 5, ground := Go.Ground.textOnly Go.Departure.lateStores }, { on := 6, ground := Go.Ground.textOnly Go.Departure.lateStoresUnsure }, { on := 7, ground := Go.Ground.phase }, { on := 8, ground := Go.Ground.phase }, { on := 9, ground := Go.Ground.phase }], guard := none }) rfl (fun K hK => ?_) ?_
                · refine st_store (by rfl) 27 (.tmp 4) (.tmp 30) (by rfl) gA (u8s r1).toArray e4_4 e30_4 27 _ HA4 HS1.out HZ1.out HU1.out ?_
                  intro W5 q5 HA5
                  have Q5 := qt_grown Q4 q5 bA
                  have HB5 := blk_far HB4 q5 (fun e => ne (by rw [e]))
                  refine hK _ _ ?_
                  clear hK K
                  refine gen_frame fun F5 hA => ?_
                  have hF : F5 = F4.put none undef := hA
                  have hF5 := Lib.hid hF
                  have e29_5 : F5.eval (.tmp 29) = Value.slice (some ⟨b, off, none⟩) p c := by rw [hF, ev_none]; exact e29_4
                  have e33_5 : F5.eval (.tmp 33) = Value.slice (some ⟨b, off + p * 32, none⟩) (n - p) (c - p) := by rw [hF, ev_none]; exact e33_4
                  have e30_5 : F5.eval (.tmp 30) = (.agg (u8s r1).toArray) := by rw [hF, ev_none]; exact e30_4
                  have e34_5 : F5.eval (.tmp 34) = (.agg (u8s r2).toArray) := by rw [hF, ev_none]; exact e34_4
                  have e5_5 : F5.eval (.tmp 5) = (.pointer (some ⟨gB, 0, none⟩)) := by rw [hF, ev_none]; exact e5_4
                  have e4_5 : F5.eval (.tmp 4) = (.pointer (some ⟨gA, 0, none⟩)) := by rw [hF, ev_none]; exact e4_4
                  have z5 : F5.tmps.size = 41 := by rw [hF, put_size]; exact z4
                  clear hF hA
                  refine wpAny_ready (rs := [11]) (by kernel_rfl) (by simp) ?_
                  refine AllReady.cons (o := { dst := none, op := Go.Op.store 27 (Go.Operand.tmp 5) (Go.Operand.tmp 34), type := 0, pos := "ref.go:164", after := #[{ on := 9, ground := Go.Ground.data }, { on := 7, ground := Go.Ground.data }, { on := 10, ground := Go.Ground.chain }, { on := 0, ground := Go.Ground.phase }, { on := 1, ground := Go.Ground.phase }, { on := 2, ground := Go.Ground.phase }, { on := 3, ground := Go.Ground.phase }, { on := 4, ground := Go.Ground.phase }, { on := 5, ground := Go.Ground.phase }, { on := 6, ground := Go.Ground.phase }, { on := 7, ground := Go.Ground.phase }, { on := 8, ground := Go.Ground.phase }, { on := 9, ground := Go.Ground.phase }, { on := 10, ground := Go.Ground.phase }], guard := none }) rfl (fun K hK => ?_) ?_
                  · refine st_store (by rfl) 27 (.tmp 5) (.tmp 34) (by rfl) gB (u8s r2).toArray e5_5 e34_5 27 _ HB5 HS2.out HZ2.out HU2.out ?_
                    intro W6 q6 HB6
                    have Q6 := qt_grown Q5 q6 bB
                    have HA6 := blk_far HA5 q6 (fun e => ne (by rw [e]))
                    refine hK _ _ ?_
                    clear hK K
                    refine gen_frame fun F6 hA => ?_
                    have hF : F6 = F5.put none undef := hA
                    have hF6 := Lib.hid hF
                    have e29_6 : F6.eval (.tmp 29) = Value.slice (some ⟨b, off, none⟩) p c := by rw [hF, ev_none]; exact e29_5
                    have e33_6 : F6.eval (.tmp 33) = Value.slice (some ⟨b, off + p * 32, none⟩) (n - p) (c - p) := by rw [hF, ev_none]; exact e33_5
                    have e30_6 : F6.eval (.tmp 30) = (.agg (u8s r1).toArray) := by rw [hF, ev_none]; exact e30_5
                    have e34_6 : F6.eval (.tmp 34) = (.agg (u8s r2).toArray) := by rw [hF, ev_none]; exact e34_5
                    have e5_6 : F6.eval (.tmp 5) = (.pointer (some ⟨gB, 0, none⟩)) := by rw [hF, ev_none]; exact e5_5
                    have e4_6 : F6.eval (.tmp 4) = (.pointer (some ⟨gA, 0, none⟩)) := by rw [hF, ev_none]; exact e4_5
                    have z6 : F6.tmps.size = 41 := by rw [hF, put_size]; exact z5
                    clear hF hA
                    refine wpAny_done (by kernel_rfl) ?_ _
                    rw [hF6.out, hF5.out, hF4.out, hF3.out, hF2.out, hF1.out, hF0.out]
                    go_wp2_with fail
                    go_meet
                    exact ⟨gA, gB, rfl, rfl, HR.out.below Q6, HA6, HB6⟩
                  exact AllReady.nil
                exact AllReady.nil
              exact AllReady.nil
            exact AllReady.nil
          refine AllReady.cons (o := { dst := some 4, op := Go.Op.alloc 27, type := 0, pos := "ref.go:164", after := #[], guard := none }) rfl (fun K hK => ?_) ?_
          · refine st_alloc (by rfl) 27 (by rfl) _ halloc ?_
            intro gA W2 q2 lA HA2
            have Q2 := Q1.trans q2
            have bA : W0.heap.size ≤ gA := Nat.le_trans Q1.size lA
            refine hK _ _ ?_
            clear hK K
            refine gen_frame fun F2 hA => ?_
            have hF : F2 = F1.put (some 4) (.pointer (some ⟨gA, 0, none⟩)) := hA
            have hF2 := Lib.hid hF
            have e29_2 : F2.eval (.tmp 29) = Value.slice (some ⟨b, off, none⟩) p c := by rw [hF, ev_other (by decide)]; exact e29_1
            have e33_2 : F2.eval (.tmp 33) = Value.slice (some ⟨b, off + p * 32, none⟩) (n - p) (c - p) := by rw [hF, ev_other (by decide)]; exact e33_1
            have e30_2 : F2.eval (.tmp 30) = (.agg (u8s r1).toArray) := by rw [hF, ev_other (by decide)]; exact e30_1
            have e4_2 : F2.eval (.tmp 4) = (.pointer (some ⟨gA, 0, none⟩)) := by rw [hF]; exact ev_same (by rw [z1]; decide)
            have z2 : F2.tmps.size = 41 := by rw [hF, put_size]; exact z1
            clear hF hA
            refine wpAny_ready (rs := [7, 9]) (by kernel_rfl) (by simp) ?_
            refine AllReady.cons (o := { dst := some 34, op := Go.Op.call { callee := Go.Callee.value (Go.Operand.func 15), args := #[Go.Operand.tmp 33], argTypes := #[32] }, type := 27, pos := "ref.go:164", after := #[{ on := 6, ground := Go.Ground.data }, { on := 3, ground := Go.Ground.chain }], guard := none }) rfl (fun K hK => ?_) ?_
            · refine st_call1 (by rfl) 15 (.tmp 33) 32 (by rfl) (.slice (some ⟨b, off + p * 32, none⟩) (n - p) (c - p)) e33_2 (hcf _) _ (Qt W2) (HC2.out _ (HQ1.out.trans Q2)) ?_
              intro W3 q3
              have Q3 := Q2.trans q3
              have HA3 := blk_qt HA2 q3
              refine hK _ _ ?_
              clear hK K
              refine gen_frame fun F3 hA => ?_
              have hF : F3 = F2.put (some 34) (.agg (u8s r2).toArray) := hA
              have hF3 := Lib.hid hF
              have e29_3 : F3.eval (.tmp 29) = Value.slice (some ⟨b, off, none⟩) p c := by rw [hF, ev_other (by decide)]; exact e29_2
              have e33_3 : F3.eval (.tmp 33) = Value.slice (some ⟨b, off + p * 32, none⟩) (n - p) (c - p) := by rw [hF, ev_other (by decide)]; exact e33_2
              have e30_3 : F3.eval (.tmp 30) = (.agg (u8s r1).toArray) := by rw [hF, ev_other (by decide)]; exact e30_2
              have e4_3 : F3.eval (.tmp 4) = (.pointer (some ⟨gA, 0, none⟩)) := by rw [hF, ev_other (by decide)]; exact e4_2
              have e34_3 : F3.eval (.tmp 34) = (.agg (u8s r2).toArray) := by rw [hF]; exact ev_same (by rw [z2]; decide)
              have z3 : F3.tmps.size = 41 := by rw [hF, put_size]; exact z2
              clear hF hA
              refine wpAny_ready (rs := [9]) (by kernel_rfl) (by simp) ?_
              refine AllReady.cons (o := { dst := some 5, op := Go.Op.alloc 27, type := 0, pos := "ref.go:164", after := #[], guard := none }) rfl (fun K hK => ?_) ?_
              · refine st_alloc (by rfl) 27 (by rfl) _ halloc ?_
                intro gB W4 q4 lB HB4
                have Q4 := Q3.trans q4
                have bB : W0.heap.size ≤ gB := Nat.le_trans Q3.size lB
                have HA4 := blk_qt HA3 q4
                have ne : gA ≠ gB := Nat.ne_of_lt (Nat.lt_of_lt_of_le (blk_lt HA3) lB)
                refine hK _ _ ?_
                clear hK K
                refine gen_frame fun F4 hA => ?_
                have hF : F4 = F3.put (some 5) (.pointer (some ⟨gB, 0, none⟩)) := hA
                have hF4 := Lib.hid hF
                have e29_4 : F4.eval (.tmp 29) = Value.slice (some ⟨b, off, none⟩) p c := by rw [hF, ev_other (by decide)]; exact e29_3
                have e33_4 : F4.eval (.tmp 33) = Value.slice (some ⟨b, off + p * 32, none⟩) (n - p) (c - p) := by rw [hF, ev_other (by decide)]; exact e33_3
                have e30_4 : F4.eval (.tmp 30) = (.agg (u8s r1).toArray) := by rw [hF, ev_other (by decide)]; exact e30_3
                have e4_4 : F4.eval (.tmp 4) = (.pointer (some ⟨gA, 0, none⟩)) := by rw [hF, ev_other (by decide)]; exact e4_3
                have e34_4 : F4.eval (.tmp 34) = (.agg (u8s r2).toArray) := by rw [hF, ev_other (by decide)]; exact e34_3
                have e5_4 : F4.eval (.tmp 5) = (.pointer (some ⟨gB, 0, none⟩)) := by rw [hF]; exact ev_same (by rw [z3]; decide)
                have z4 : F4.tmps.size = 41 := by rw [hF, put_size]; exact z3
                clear hF hA
                refine wpAny_ready (rs := [10]) (by kernel_rfl) (by simp) ?_
                refine AllReady.cons (o := { dst := none, op := Go.Op.store 27 (Go.Operand.tmp 4) (Go.Operand.tmp 30), type := 0, pos := "ref.go:164", after := #[{ on := 8, ground := Go.Ground.data }, { on := 3, ground := Go.Ground.data }, { on := 7, ground := Go.Ground.chain }, { on := 0, ground := Go.Ground.phase }, { on := 1, ground := Go.Ground.phase }, { on := 2, ground := Go.Ground.phase }, { on := 3, ground := Go.Ground.phase }, { on := 4, ground := Go.Ground.textOnly Go.Departure.lateStores }, { on := 5, ground := Go.Ground.textOnly Go.Departure.lateStores }, { on := 6, ground := Go.Ground.textOnly Go.Departure.lateStoresUnsure }, { on := 7, ground := Go.Ground.phase }, { on := 8, ground := Go.Ground.phase }, { on := 9, ground := Go.Ground.phase }], guard := none }) rfl (fun K hK => ?_) ?_
                · refine st_store (by rfl) 27 (.tmp 4) (.tmp 30) (by rfl) gA (u8s r1).toArray e4_4 e30_4 27 _ HA4 HS1.out HZ1.out HU1.out ?_
                  intro W5 q5 HA5
                  have Q5 := qt_grown Q4 q5 bA
                  have HB5 := blk_far HB4 q5 (fun e => ne (by rw [e]))
                  refine hK _ _ ?_
                  clear hK K
                  refine gen_frame fun F5 hA => ?_
                  have hF : F5 = F4.put none undef := hA
                  have hF5 := Lib.hid hF
                  have e29_5 : F5.eval (.tmp 29) = Value.slice (some ⟨b, off, none⟩) p c := by rw [hF, ev_none]; exact e29_4
                  have e33_5 : F5.eval (.tmp 33) = Value.slice (some ⟨b, off + p * 32, none⟩) (n - p) (c - p) := by rw [hF, ev_none]; exact e33_4
                  have e30_5 : F5.eval (.tmp 30) = (.agg (u8s r1).toArray) := by rw [hF, ev_none]; exact e30_4
                  have e4_5 : F5.eval (.tmp 4) = (.pointer (some ⟨gA, 0, none⟩)) := by rw [hF, ev_none]; exact e4_4
                  have e34_5 : F5.eval (.tmp 34) = (.agg (u8s r2).toArray) := by rw [hF, ev_none]; exact e34_4
                  have e5_5 : F5.eval (.tmp 5) = (.pointer (some ⟨gB, 0, none⟩)) := by rw [hF, ev_none]; exact e5_4
                  have z5 : F5.tmps.size = 41 := by rw [hF, put_size]; exact z4
                  clear hF hA
                  refine wpAny_ready (rs := [11]) (by kernel_rfl) (by simp) ?_
                  refine AllReady.cons (o := { dst := none, op := Go.Op.store 27 (Go.Operand.tmp 5) (Go.Operand.tmp 34), type := 0, pos := "ref.go:164", after := #[{ on := 9, ground := Go.Ground.data }, { on := 7, ground := Go.Ground.data }, { on := 10, ground := Go.Ground.chain }, { on := 0, ground := Go.Ground.phase }, { on := 1, ground := Go.Ground.phase }, { on := 2, ground := Go.Ground.phase }, { on := 3, ground := Go.Ground.phase }, { on := 4, ground := Go.Ground.phase }, { on := 5, ground := Go.Ground.phase }, { on := 6, ground := Go.Ground.phase }, { on := 7, ground := Go.Ground.phase }, { on := 8, ground := Go.Ground.phase }, { on := 9, ground := Go.Ground.phase }, { on := 10, ground := Go.Ground.phase }], guard := none }) rfl (fun K hK => ?_) ?_
                  · refine st_store (by rfl) 27 (.tmp 5) (.tmp 34) (by rfl) gB (u8s r2).toArray e5_5 e34_5 27 _ HB5 HS2.out HZ2.out HU2.out ?_
                    intro W6 q6 HB6
                    have Q6 := qt_grown Q5 q6 bB
                    have HA6 := blk_far HA5 q6 (fun e => ne (by rw [e]))
                    refine hK _ _ ?_
                    clear hK K
                    refine gen_frame fun F6 hA => ?_
                    have hF : F6 = F5.put none undef := hA
                    have hF6 := Lib.hid hF
                    have e29_6 : F6.eval (.tmp 29) = Value.slice (some ⟨b, off, none⟩) p c := by rw [hF, ev_none]; exact e29_5
                    have e33_6 : F6.eval (.tmp 33) = Value.slice (some ⟨b, off + p * 32, none⟩) (n - p) (c - p) := by rw [hF, ev_none]; exact e33_5
                    have e30_6 : F6.eval (.tmp 30) = (.agg (u8s r1).toArray) := by rw [hF, ev_none]; exact e30_5
                    have e4_6 : F6.eval (.tmp 4) = (.pointer (some ⟨gA, 0, none⟩)) := by rw [hF, ev_none]; exact e4_5
                    have e34_6 : F6.eval (.tmp 34) = (.agg (u8s r2).toArray) := by rw [hF, ev_none]; exact e34_5
                    have e5_6 : F6.eval (.tmp 5) = (.pointer (some ⟨gB, 0, none⟩)) := by rw [hF, ev_none]; exact e5_5
                    have z6 : F6.tmps.size = 41 := by rw [hF, put_size]; exact z5
                    clear hF hA
                    refine wpAny_done (by kernel_rfl) ?_ _
                    rw [hF6.out, hF5.out, hF4.out, hF3.out, hF2.out, hF1.out, hF0.out]
                    go_wp2_with fail
                    go_meet
                    exact ⟨gA, gB, rfl, rfl, HR.out.below Q6, HA6, HB6⟩
                  exact AllReady.nil
                exact AllReady.nil
              exact AllReady.nil
            refine AllReady.cons (o := { dst := some 5, op := Go.Op.alloc 27, type := 0, pos := "ref.go:164", after := #[], guard := none }) rfl (fun K hK => ?_) ?_
            · refine st_alloc (by rfl) 27 (by rfl) _ halloc ?_
              intro gB W3 q3 lB HB3
              have Q3 := Q2.trans q3
              have bB : W0.heap.size ≤ gB := Nat.le_trans Q2.size lB
              have HA3 := blk_qt HA2 q3
              have ne : gA ≠ gB := Nat.ne_of_lt (Nat.lt_of_lt_of_le (blk_lt HA2) lB)
              refine hK _ _ ?_
              clear hK K
              refine gen_frame fun F3 hA => ?_
              have hF : F3 = F2.put (some 5) (.pointer (some ⟨gB, 0, none⟩)) := hA
              have hF3 := Lib.hid hF
              have e29_3 : F3.eval (.tmp 29) = Value.slice (some ⟨b, off, none⟩) p c := by rw [hF, ev_other (by decide)]; exact e29_2
              have e33_3 : F3.eval (.tmp 33) = Value.slice (some ⟨b, off + p * 32, none⟩) (n - p) (c - p) := by rw [hF, ev_other (by decide)]; exact e33_2
              have e30_3 : F3.eval (.tmp 30) = (.agg (u8s r1).toArray) := by rw [hF, ev_other (by decide)]; exact e30_2
              have e4_3 : F3.eval (.tmp 4) = (.pointer (some ⟨gA, 0, none⟩)) := by rw [hF, ev_other (by decide)]; exact e4_2
              have e5_3 : F3.eval (.tmp 5) = (.pointer (some ⟨gB, 0, none⟩)) := by rw [hF]; exact ev_same (by rw [z2]; decide)
              have z3 : F3.tmps.size = 41 := by rw [hF, put_size]; exact z2
              clear hF hA
              refine wpAny_ready (rs := [7]) (by kernel_rfl) (by simp) ?_
              refine AllReady.cons (o := { dst := some 34, op := Go.Op.call { callee := Go.Callee.value (Go.Operand.func 15), args := #[Go.Operand.tmp 33], argTypes := #[32] }, type := 27, pos := "ref.go:164", after := #[{ on := 6, ground := Go.Ground.data }, { on := 3, ground := Go.Ground.chain }], guard := none }) rfl (fun K hK => ?_) ?_
              · refine st_call1 (by rfl) 15 (.tmp 33) 32 (by rfl) (.slice (some ⟨b, off + p * 32, none⟩) (n - p) (c - p)) e33_3 (hcf _) _ (Qt W3) (HC2.out _ (HQ1.out.trans Q3)) ?_
                intro W4 q4
                have Q4 := Q3.trans q4
                have HA4 := blk_qt HA3 q4
                have HB4 := blk_qt HB3 q4
                refine hK _ _ ?_
                clear hK K
                refine gen_frame fun F4 hA => ?_
                have hF : F4 = F3.put (some 34) (.agg (u8s r2).toArray) := hA
                have hF4 := Lib.hid hF
                have e29_4 : F4.eval (.tmp 29) = Value.slice (some ⟨b, off, none⟩) p c := by rw [hF, ev_other (by decide)]; exact e29_3
                have e33_4 : F4.eval (.tmp 33) = Value.slice (some ⟨b, off + p * 32, none⟩) (n - p) (c - p) := by rw [hF, ev_other (by decide)]; exact e33_3
                have e30_4 : F4.eval (.tmp 30) = (.agg (u8s r1).toArray) := by rw [hF, ev_other (by decide)]; exact e30_3
                have e4_4 : F4.eval (.tmp 4) = (.pointer (some ⟨gA, 0, none⟩)) := by rw [hF, ev_other (by decide)]; exact e4_3
                have e5_4 : F4.eval (.tmp 5) = (.pointer (some ⟨gB, 0, none⟩)) := by rw [hF, ev_other (by decide)]; exact e5_3
                have e34_4 : F4.eval (.tmp 34) = (.agg (u8s r2).toArray) := by rw [hF]; exact ev_same (by rw [z3]; decide)
                have z4 : F4.tmps.size = 41 := by rw [hF, put_size]; exact z3
                clear hF hA
                refine wpAny_ready (rs := [10]) (by kernel_rfl) (by simp) ?_
                refine AllReady.cons (o := { dst := none, op := Go.Op.store 27 (Go.Operand.tmp 4) (Go.Operand.tmp 30), type := 0, pos := "ref.go:164", after := #[{ on := 8, ground := Go.Ground.data }, { on := 3, ground := Go.Ground.data }, { on := 7, ground := Go.Ground.chain }, { on := 0, ground := Go.Ground.phase }, { on := 1, ground := Go.Ground.phase }, { on := 2, ground := Go.Ground.phase }, { on := 3, ground := Go.Ground.phase }, { on := 4, ground := Go.Ground.textOnly Go.Departure.lateStores }, { on := 5, ground := Go.Ground.textOnly Go.Departure.lateStores }, { on := 6, ground := Go.Ground.textOnly Go.Departure.lateStoresUnsure }, { on := 7, ground := Go.Ground.phase }, { on := 8, ground := Go.Ground.phase }, { on := 9, ground := Go.Ground.phase }], guard := none }) rfl (fun K hK => ?_) ?_
                · refine st_store (by rfl) 27 (.tmp 4) (.tmp 30) (by rfl) gA (u8s r1).toArray e4_4 e30_4 27 _ HA4 HS1.out HZ1.out HU1.out ?_
                  intro W5 q5 HA5
                  have Q5 := qt_grown Q4 q5 bA
                  have HB5 := blk_far HB4 q5 (fun e => ne (by rw [e]))
                  refine hK _ _ ?_
                  clear hK K
                  refine gen_frame fun F5 hA => ?_
                  have hF : F5 = F4.put none undef := hA
                  have hF5 := Lib.hid hF
                  have e29_5 : F5.eval (.tmp 29) = Value.slice (some ⟨b, off, none⟩) p c := by rw [hF, ev_none]; exact e29_4
                  have e33_5 : F5.eval (.tmp 33) = Value.slice (some ⟨b, off + p * 32, none⟩) (n - p) (c - p) := by rw [hF, ev_none]; exact e33_4
                  have e30_5 : F5.eval (.tmp 30) = (.agg (u8s r1).toArray) := by rw [hF, ev_none]; exact e30_4
                  have e4_5 : F5.eval (.tmp 4) = (.pointer (some ⟨gA, 0, none⟩)) := by rw [hF, ev_none]; exact e4_4
                  have e5_5 : F5.eval (.tmp 5) = (.pointer (some ⟨gB, 0, none⟩)) := by rw [hF, ev_none]; exact e5_4
                  have e34_5 : F5.eval (.tmp 34) = (.agg (u8s r2).toArray) := by rw [hF, ev_none]; exact e34_4
                  have z5 : F5.tmps.size = 41 := by rw [hF, put_size]; exact z4
                  clear hF hA
                  refine wpAny_ready (rs := [11]) (by kernel_rfl) (by simp) ?_
                  refine AllReady.cons (o := { dst := none, op := Go.Op.store 27 (Go.Operand.tmp 5) (Go.Operand.tmp 34), type := 0, pos := "ref.go:164", after := #[{ on := 9, ground := Go.Ground.data }, { on := 7, ground := Go.Ground.data }, { on := 10, ground := Go.Ground.chain }, { on := 0, ground := Go.Ground.phase }, { on := 1, ground := Go.Ground.phase }, { on := 2, ground := Go.Ground.phase }, { on := 3, ground := Go.Ground.phase }, { on := 4, ground := Go.Ground.phase }, { on := 5, ground := Go.Ground.phase }, { on := 6, ground := Go.Ground.phase }, { on := 7, ground := Go.Ground.phase }, { on := 8, ground := Go.Ground.phase }, { on := 9, ground := Go.Ground.phase }, { on := 10, ground := Go.Ground.phase }], guard := none }) rfl (fun K hK => ?_) ?_
                  · refine st_store (by rfl) 27 (.tmp 5) (.tmp 34) (by rfl) gB (u8s r2).toArray e5_5 e34_5 27 _ HB5 HS2.out HZ2.out HU2.out ?_
                    intro W6 q6 HB6
                    have Q6 := qt_grown Q5 q6 bB
                    have HA6 := blk_far HA5 q6 (fun e => ne (by rw [e]))
                    refine hK _ _ ?_
                    clear hK K
                    refine gen_frame fun F6 hA => ?_
                    have hF : F6 = F5.put none undef := hA
                    have hF6 := Lib.hid hF
                    have e29_6 : F6.eval (.tmp 29) = Value.slice (some ⟨b, off, none⟩) p c := by rw [hF, ev_none]; exact e29_5
                    have e33_6 : F6.eval (.tmp 33) = Value.slice (some ⟨b, off + p * 32, none⟩) (n - p) (c - p) := by rw [hF, ev_none]; exact e33_5
                    have e30_6 : F6.eval (.tmp 30) = (.agg (u8s r1).toArray) := by rw [hF, ev_none]; exact e30_5
                    have e4_6 : F6.eval (.tmp 4) = (.pointer (some ⟨gA, 0, none⟩)) := by rw [hF, ev_none]; exact e4_5
                    have e5_6 : F6.eval (.tmp 5) = (.pointer (some ⟨gB, 0, none⟩)) := by rw [hF, ev_none]; exact e5_5
                    have e34_6 : F6.eval (.tmp 34) = (.agg (u8s r2).toArray) := by rw [hF, ev_none]; exact e34_5
                    have z6 : F6.tmps.size = 41 := by rw [hF, put_size]; exact z5
                    clear hF hA
                    refine wpAny_done (by kernel_rfl) ?_ _
                    rw [hF6.out, hF5.out, hF4.out, hF3.out, hF2.out, hF1.out, hF0.out]
                    go_wp2_with fail
                    go_meet
                    exact ⟨gA, gB, rfl, rfl, HR.out.below Q6, HA6, HB6⟩
                  exact AllReady.nil
                exact AllReady.nil
              exact AllReady.nil
            exact AllReady.nil
          refine AllReady.cons (o := { dst := some 5, op := Go.Op.alloc 27, type := 0, pos := "ref.go:164", after := #[], guard := none }) rfl (fun K hK => ?_) ?_
          · refine st_alloc (by rfl) 27 (by rfl) _ halloc ?_
            intro gB W2 q2 lB HB2
            have Q2 := Q1.trans q2
            have bB : W0.heap.size ≤ gB := Nat.le_trans Q1.size lB
            refine hK _ _ ?_
            clear hK K
            refine gen_frame fun F2 hA => ?_
            have hF : F2 = F1.put (some 5) (.pointer (some ⟨gB, 0, none⟩)) := hA
            have hF2 := Lib.hid hF
            have e29_2 : F2.eval (.tmp 29) = Value.slice (some ⟨b, off, none⟩) p c := by rw [hF, ev_other (by decide)]; exact e29_1
            have e33_2 : F2.eval (.tmp 33) = Value.slice (some ⟨b, off + p * 32, none⟩) (n - p) (c - p) := by rw [hF, ev_other (by decide)]; exact e33_1
            have e30_2 : F2.eval (.tmp 30) = (.agg (u8s r1).toArray) := by rw [hF, ev_other (by decide)]; exact e30_1
            have e5_2 : F2.eval (.tmp 5) = (.pointer (some ⟨gB, 0, none⟩)) := by rw [hF]; exact ev_same (by rw [z1]; decide)
            have z2 : F2.tmps.size = 41 := by rw [hF, put_size]; exact z1
            clear hF hA
            refine wpAny_ready (rs := [7, 8]) (by kernel_rfl) (by simp) ?_
            refine AllReady.cons (o := { dst := some 34, op := Go.Op.call { callee := Go.Callee.value (Go.Operand.func 15), args := #[Go.Operand.tmp 33], argTypes := #[32] }, type := 27, pos := "ref.go:164", after := #[{ on := 6, ground := Go.Ground.data }, { on := 3, ground := Go.Ground.chain }], guard := none }) rfl (fun K hK => ?_) ?_
            · refine st_call1 (by rfl) 15 (.tmp 33) 32 (by rfl) (.slice (some ⟨b, off + p * 32, none⟩) (n - p) (c - p)) e33_2 (hcf _) _ (Qt W2) (HC2.out _ (HQ1.out.trans Q2)) ?_
              intro W3 q3
              have Q3 := Q2.trans q3
              have HB3 := blk_qt HB2 q3
              refine hK _ _ ?_
              clear hK K
              refine gen_frame fun F3 hA => ?_
              have hF : F3 = F2.put (some 34) (.agg (u8s r2).toArray) := hA
              have hF3 := Lib.hid hF
              have e29_3 : F3.eval (.tmp 29) = Value.slice (some ⟨b, off, none⟩) p c := by rw [hF, ev_other (by decide)]; exact e29_2
              have e33_3 : F3.eval (.tmp 33) = Value.slice (some ⟨b, off + p * 32, none⟩) (n - p) (c - p) := by rw [hF, ev_other (by decide)]; exact e33_2
              have e30_3 : F3.eval (.tmp 30) = (.agg (u8s r1).toArray) := by rw [hF, ev_other (by decide)]; exact e30_2
              have e5_3 : F3.eval (.tmp 5) = (.pointer (some ⟨gB, 0, none⟩)) := by rw [hF, ev_other (by decide)]; exact e5_2
              have e34_3 : F3.eval (.tmp 34) = (.agg (u8s r2).toArray) := by rw [hF]; exact ev_same (by rw [z2]; decide)
              have z3 : F3.tmps.size = 41 := by rw [hF, put_size]; exact z2
              clear hF hA
              refine wpAny_ready (rs := [8]) (by kernel_rfl) (by simp) ?_
              refine AllReady.cons (o := { dst := some 4, op := Go.Op.alloc 27, type := 0, pos := "ref.go:164", after := #[], guard := none }) rfl (fun K hK => ?_) ?_
              · refine st_alloc (by rfl) 27 (by rfl) _ halloc ?_
                intro gA W4 q4 lA HA4
                have Q4 := Q3.trans q4
                have bA : W0.heap.size ≤ gA := Nat.le_trans Q3.size lA
                have HB4 := blk_qt HB3 q4
                have ne : gB ≠ gA := Nat.ne_of_lt (Nat.lt_of_lt_of_le (blk_lt HB3) lA)
                refine hK _ _ ?_
                clear hK K
                refine gen_frame fun F4 hA => ?_
                have hF : F4 = F3.put (some 4) (.pointer (some ⟨gA, 0, none⟩)) := hA
                have hF4 := Lib.hid hF
                have e29_4 : F4.eval (.tmp 29) = Value.slice (some ⟨b, off, none⟩) p c := by rw [hF, ev_other (by decide)]; exact e29_3
                have e33_4 : F4.eval (.tmp 33) = Value.slice (some ⟨b, off + p * 32, none⟩) (n - p) (c - p) := by rw [hF, ev_other (by decide)]; exact e33_3
                have e30_4 : F4.eval (.tmp 30) = (.agg (u8s r1).toArray) := by rw [hF, ev_other (by decide)]; exact e30_3
                have e5_4 : F4.eval (.tmp 5) = (.pointer (some ⟨gB, 0, none⟩)) := by rw [hF, ev_other (by decide)]; exact e5_3
                have e34_4 : F4.eval (.tmp 34) = (.agg (u8s r2).toArray) := by rw [hF, ev_other (by decide)]; exact e34_3
                have e4_4 : F4.eval (.tmp 4) = (.pointer (some ⟨gA, 0, none⟩)) := by rw [hF]; exact ev_same (by rw [z3]; decide)
                have z4 : F4.tmps.size = 41 := by rw [hF, put_size]; exact z3
                clear hF hA
                refine wpAny_ready (rs := [10]) (by kernel_rfl) (by simp) ?_
                refine AllReady.cons (o := { dst := none, op := Go.Op.store 27 (Go.Operand.tmp 4) (Go.Operand.tmp 30), type := 0, pos := "ref.go:164", after := #[{ on := 8, ground := Go.Ground.data }, { on := 3, ground := Go.Ground.data }, { on := 7, ground := Go.Ground.chain }, { on := 0, ground := Go.Ground.phase }, { on := 1, ground := Go.Ground.phase }, { on := 2, ground := Go.Ground.phase }, { on := 3, ground := Go.Ground.phase }, { on := 4, ground := Go.Ground.textOnly Go.Departure.lateStores }, { on := 5, ground := Go.Ground.textOnly Go.Departure.lateStores }, { on := 6, ground := Go.Ground.textOnly Go.Departure.lateStoresUnsure }, { on := 7, ground := Go.Ground.phase }, { on := 8, ground := Go.Ground.phase }, { on := 9, ground := Go.Ground.phase }], guard := none }) rfl (fun K hK => ?_) ?_
                · refine st_store (by rfl) 27 (.tmp 4) (.tmp 30) (by rfl) gA (u8s r1).toArray e4_4 e30_4 27 _ HA4 HS1.out HZ1.out HU1.out ?_
                  intro W5 q5 HA5
                  have Q5 := qt_grown Q4 q5 bA
                  have HB5 := blk_far HB4 q5 (fun e => ne (by rw [e]))
                  refine hK _ _ ?_
                  clear hK K
                  refine gen_frame fun F5 hA => ?_
                  have hF : F5 = F4.put none undef := hA
                  have hF5 := Lib.hid hF
                  have e29_5 : F5.eval (.tmp 29) = Value.slice (some ⟨b, off, none⟩) p c := by rw [hF, ev_none]; exact e29_4
                  have e33_5 : F5.eval (.tmp 33) = Value.slice (some ⟨b, off + p * 32, none⟩) (n - p) (c - p) := by rw [hF, ev_none]; exact e33_4
                  have e30_5 : F5.eval (.tmp 30) = (.agg (u8s r1).toArray) := by rw [hF, ev_none]; exact e30_4
                  have e5_5 : F5.eval (.tmp 5) = (.pointer (some ⟨gB, 0, none⟩)) := by rw [hF, ev_none]; exact e5_4
                  have e34_5 : F5.eval (.tmp 34) = (.agg (u8s r2).toArray) := by rw [hF, ev_none]; exact e34_4
                  have e4_5 : F5.eval (.tmp 4) = (.pointer (some ⟨gA, 0, none⟩)) := by rw [hF, ev_none]; exact e4_4
                  have z5 : F5.tmps.size = 41 := by rw [hF, put_size]; exact z4
                  clear hF hA
                  refine wpAny_ready (rs := [11]) (by kernel_rfl) (by simp) ?_
                  refine AllReady.cons (o := { dst := none, op := Go.Op.store 27 (Go.Operand.tmp 5) (Go.Operand.tmp 34), type := 0, pos := "ref.go:164", after := #[{ on := 9, ground := Go.Ground.data }, { on := 7, ground := Go.Ground.data }, { on := 10, ground := Go.Ground.chain }, { on := 0, ground := Go.Ground.phase }, { on := 1, ground := Go.Ground.phase }, { on := 2, ground := Go.Ground.phase }, { on := 3, ground := Go.Ground.phase }, { on := 4, ground := Go.Ground.phase }, { on := 5, ground := Go.Ground.phase }, { on := 6, ground := Go.Ground.phase }, { on := 7, ground := Go.Ground.phase }, { on := 8, ground := Go.Ground.phase }, { on := 9, ground := Go.Ground.phase }, { on := 10, ground := Go.Ground.phase }], guard := none }) rfl (fun K hK => ?_) ?_
                  · refine st_store (by rfl) 27 (.tmp 5) (.tmp 34) (by rfl) gB (u8s r2).toArray e5_5 e34_5 27 _ HB5 HS2.out HZ2.out HU2.out ?_
                    intro W6 q6 HB6
                    have Q6 := qt_grown Q5 q6 bB
                    have HA6 := blk_far HA5 q6 (fun e => ne (by rw [e]))
                    refine hK _ _ ?_
                    clear hK K
                    refine gen_frame fun F6 hA => ?_
                    have hF : F6 = F5.put none undef := hA
                    have hF6 := Lib.hid hF
                    have e29_6 : F6.eval (.tmp 29) = Value.slice (some ⟨b, off, none⟩) p c := by rw [hF, ev_none]; exact e29_5
                    have e33_6 : F6.eval (.tmp 33) = Value.slice (some ⟨b, off + p * 32, none⟩) (n - p) (c - p) := by rw [hF, ev_none]; exact e33_5
                    have e30_6 : F6.eval (.tmp 30) = (.agg (u8s r1).toArray) := by rw [hF, ev_none]; exact e30_5
                    have e5_6 : F6.eval (.tmp 5) = (.pointer (some ⟨gB, 0, none⟩)) := by rw [hF, ev_none]; exact e5_5
                    have e34_6 : F6.eval (.tmp 34) = (.agg (u8s r2).toArray) := by rw [hF, ev_none]; exact e34_5
                    have e4_6 : F6.eval (.tmp 4) = (.pointer (some ⟨gA, 0, none⟩)) := by rw [hF, ev_none]; exact e4_5
                    have z6 : F6.tmps.size = 41 := by rw [hF, put_size]; exact z5
                    clear hF hA
                    refine wpAny_done (by kernel_rfl) ?_ _
                    rw [hF6.out, hF5.out, hF4.out, hF3.out, hF2.out, hF1.out, hF0.out]
                    go_wp2_with fail
                    go_meet
                    exact ⟨gA, gB, rfl, rfl, HR.out.below Q6, HA6, HB6⟩
                  exact AllReady.nil
                exact AllReady.nil
              exact AllReady.nil
            refine AllReady.cons (o := { dst := some 4, op := Go.Op.alloc 27, type := 0, pos := "ref.go:164", after := #[], guard := none }) rfl (fun K hK => ?_) ?_
            · refine st_alloc (by rfl) 27 (by rfl) _ halloc ?_
              intro gA W3 q3 lA HA3
              have Q3 := Q2.trans q3
              have bA : W0.heap.size ≤ gA := Nat.le_trans Q2.size lA
              have HB3 := blk_qt HB2 q3
              have ne : gB ≠ gA := Nat.ne_of_lt (Nat.lt_of_lt_of_le (blk_lt HB2) lA)
              refine hK _ _ ?_
              clear hK K
              refine gen_frame fun F3 hA => ?_
              have hF : F3 = F2.put (some 4) (.pointer (some ⟨gA, 0, none⟩)) := hA
              have hF3 := Lib.hid hF
              have e29_3 : F3.eval (.tmp 29) = Value.slice (some ⟨b, off, none⟩) p c := by rw [hF, ev_other (by decide)]; exact e29_2
              have e33_3 : F3.eval (.tmp 33) = Value.slice (some ⟨b, off + p * 32, none⟩) (n - p) (c - p) := by rw [hF, ev_other (by decide)]; exact e33_2
              have e30_3 : F3.eval (.tmp 30) = (.agg (u8s r1).toArray) := by rw [hF, ev_other (by decide)]; exact e30_2
              have e5_3 : F3.eval (.tmp 5) = (.pointer (some ⟨gB, 0, none⟩)) := by rw [hF, ev_other (by decide)]; exact e5_2
              have e4_3 : F3.eval (.tmp 4) = (.pointer (some ⟨gA, 0, none⟩)) := by rw [hF]; exact ev_same (by rw [z2]; decide)
              have z3 : F3.tmps.size = 41 := by rw [hF, put_size]; exact z2
              clear hF hA
              refine wpAny_ready (rs := [7]) (by kernel_rfl) (by simp) ?_
              refine AllReady.cons (o := { dst := some 34, op := Go.Op.call { callee := Go.Callee.value (Go.Operand.func 15), args := #[Go.Operand.tmp 33], argTypes := #[32] }, type := 27, pos := "ref.go:164", after := #[{ on := 6, ground := Go.Ground.data }, { on := 3, ground := Go.Ground.chain }], guard := none }) rfl (fun K hK => ?_) ?_
              · refine st_call1 (by rfl) 15 (.tmp 33) 32 (by rfl) (.slice (some ⟨b, off + p * 32, none⟩) (n - p) (c - p)) e33_3 (hcf _) _ (Qt W3) (HC2.out _ (HQ1.out.trans Q3)) ?_
                intro W4 q4
                have Q4 := Q3.trans q4
                have HA4 := blk_qt HA3 q4
                have HB4 := blk_qt HB3 q4
                refine hK _ _ ?_
                clear hK K
                refine gen_frame fun F4 hA => ?_
                have hF : F4 = F3.put (some 34) (.agg (u8s r2).toArray) := hA
                have hF4 := Lib.hid hF
                have e29_4 : F4.eval (.tmp 29) = Value.slice (some ⟨b, off, none⟩) p c := by rw [hF, ev_other (by decide)]; exact e29_3
                have e33_4 : F4.eval (.tmp 33) = Value.slice (some ⟨b, off + p * 32, none⟩) (n - p) (c - p) := by rw [hF, ev_other (by decide)]; exact e33_3
                have e30_4 : F4.eval (.tmp 30) = (.agg (u8s r1).toArray) := by rw [hF, ev_other (by decide)]; exact e30_3
                have e5_4 : F4.eval (.tmp 5) = (.pointer (some ⟨gB, 0, none⟩)) := by rw [hF, ev_other (by decide)]; exact e5_3
                have e4_4 : F4.eval (.tmp 4) = (.pointer (some ⟨gA, 0, none⟩)) := by rw [hF, ev_other (by decide)]; exact e4_3
                have e34_4 : F4.eval (.tmp 34) = (.agg (u8s r2).toArray) := by rw [hF]; exact ev_same (by rw [z3]; decide)
                have z4 : F4.tmps.size = 41 := by rw [hF, put_size]; exact z3
                clear hF hA
                refine wpAny_ready (rs := [10]) (by kernel_rfl) (by simp) ?_
                refine AllReady.cons (o := { dst := none, op := Go.Op.store 27 (Go.Operand.tmp 4) (Go.Operand.tmp 30), type := 0, pos := "ref.go:164", after := #[{ on := 8, ground := Go.Ground.data }, { on := 3, ground := Go.Ground.data }, { on := 7, ground := Go.Ground.chain }, { on := 0, ground := Go.Ground.phase }, { on := 1, ground := Go.Ground.phase }, { on := 2, ground := Go.Ground.phase }, { on := 3, ground := Go.Ground.phase }, { on := 4, ground := Go.Ground.textOnly Go.Departure.lateStores }, { on := 5, ground := Go.Ground.textOnly Go.Departure.lateStores }, { on := 6, ground := Go.Ground.textOnly Go.Departure.lateStoresUnsure }, { on := 7, ground := Go.Ground.phase }, { on := 8, ground := Go.Ground.phase }, { on := 9, ground := Go.Ground.phase }], guard := none }) rfl (fun K hK => ?_) ?_
                · refine st_store (by rfl) 27 (.tmp 4) (.tmp 30) (by rfl) gA (u8s r1).toArray e4_4 e30_4 27 _ HA4 HS1.out HZ1.out HU1.out ?_
                  intro W5 q5 HA5
                  have Q5 := qt_grown Q4 q5 bA
                  have HB5 := blk_far HB4 q5 (fun e => ne (by rw [e]))
                  refine hK _ _ ?_
                  clear hK K
                  refine gen_frame fun F5 hA => ?_
                  have hF : F5 = F4.put none undef := hA
                  have hF5 := Lib.hid hF
                  have e29_5 : F5.eval (.tmp 29) = Value.slice (some ⟨b, off, none⟩) p c := by rw [hF, ev_none]; exact e29_4
                  have e33_5 : F5.eval (.tmp 33) = Value.slice (some ⟨b, off + p * 32, none⟩) (n - p) (c - p) := by rw [hF, ev_none]; exact e33_4
                  have e30_5 : F5.eval (.tmp 30) = (.agg (u8s r1).toArray) := by rw [hF, ev_none]; exact e30_4
                  have e5_5 : F5.eval (.tmp 5) = (.pointer (some ⟨gB, 0, none⟩)) := by rw [hF, ev_none]; exact e5_4
                  have e4_5 : F5.eval (.tmp 4) = (.pointer (some ⟨gA, 0, none⟩)) := by rw [hF, ev_none]; exact e4_4
                  have e34_5 : F5.eval (.tmp 34) = (.agg (u8s r2).toArray) := by rw [hF, ev_none]; exact e34_4
                  have z5 : F5.tmps.size = 41 := by rw [hF, put_size]; exact z4
                  clear hF hA
                  refine wpAny_ready (rs := [11]) (by kernel_rfl) (by simp) ?_
                  refine AllReady.cons (o := { dst := none, op := Go.Op.store 27 (Go.Operand.tmp 5) (Go.Operand.tmp 34), type := 0, pos := "ref.go:164", after := #[{ on := 9, ground := Go.Ground.data }, { on := 7, ground := Go.Ground.data }, { on := 10, ground := Go.Ground.chain }, { on := 0, ground := Go.Ground.phase }, { on := 1, ground := Go.Ground.phase }, { on := 2, ground := Go.Ground.phase }, { on := 3, ground := Go.Ground.phase }, { on := 4, ground := Go.Ground.phase }, { on := 5, ground := Go.Ground.phase }, { on := 6, ground := Go.Ground.phase }, { on := 7, ground := Go.Ground.phase }, { on := 8, ground := Go.Ground.phase }, { on := 9, ground := Go.Ground.phase }, { on := 10, ground := Go.Ground.phase }], guard := none }) rfl (fun K hK => ?_) ?_
                  · refine st_store (by rfl) 27 (.tmp 5) (.tmp 34) (by rfl) gB (u8s r2).toArray e5_5 e34_5 27 _ HB5 HS2.out HZ2.out HU2.out ?_
                    intro W6 q6 HB6
                    have Q6 := qt_grown Q5 q6 bB
                    have HA6 := blk_far HA5 q6 (fun e => ne (by rw [e]))
                    refine hK _ _ ?_
                    clear hK K
                    refine gen_frame fun F6 hA => ?_
                    have hF : F6 = F5.put none undef := hA
                    have hF6 := Lib.hid hF
                    have e29_6 : F6.eval (.tmp 29) = Value.slice (some ⟨b, off, none⟩) p c := by rw [hF, ev_none]; exact e29_5
                    have e33_6 : F6.eval (.tmp 33) = Value.slice (some ⟨b, off + p * 32, none⟩) (n - p) (c - p) := by rw [hF, ev_none]; exact e33_5
                    have e30_6 : F6.eval (.tmp 30) = (.agg (u8s r1).toArray) := by rw [hF, ev_none]; exact e30_5
                    have e5_6 : F6.eval (.tmp 5) = (.pointer (some ⟨gB, 0, none⟩)) := by rw [hF, ev_none]; exact e5_5
                    have e4_6 : F6.eval (.tmp 4) = (.pointer (some ⟨gA, 0, none⟩)) := by rw [hF, ev_none]; exact e4_5
                    have e34_6 : F6.eval (.tmp 34) = (.agg (u8s r2).toArray) := by rw [hF, ev_none]; exact e34_5
                    have z6 : F6.tmps.size = 41 := by rw [hF, put_size]; exact z5
                    clear hF hA
                    refine wpAny_done (by kernel_rfl) ?_ _
                    rw [hF6.out, hF5.out, hF4.out, hF3.out, hF2.out, hF1.out, hF0.out]
                    go_wp2_with fail
                    go_meet
                    exact ⟨gA, gB, rfl, rfl, HR.out.below Q6, HA6, HB6⟩
                  exact AllReady.nil
                exact AllReady.nil
              exact AllReady.nil
            exact AllReady.nil
          exact AllReady.nil
        refine AllReady.cons (o := { dst := some 4, op := Go.Op.alloc 27, type := 0, pos := "ref.go:164", after := #[], guard := none }) rfl (fun K hK => ?_) ?_
        · refine st_alloc (by rfl) 27 (by rfl) _ halloc ?_
          intro gA W1 q1 lA HA1
          have Q1 := Q0.trans q1
          have bA : W0.heap.size ≤ gA := Nat.le_trans Q0.size lA
          refine hK _ _ ?_
          clear hK K
          refine gen_frame fun F1 hA => ?_
          have hF : F1 = F0.put (some 4) (.pointer (some ⟨gA, 0, none⟩)) := hA
          have hF1 := Lib.hid hF
          have e29_1 : F1.eval (.tmp 29) = Value.slice (some ⟨b, off, none⟩) p c := by rw [hF, ev_other (by decide)]; exact e29_0
          have e33_1 : F1.eval (.tmp 33) = Value.slice (some ⟨b, off + p * 32, none⟩) (n - p) (c - p) := by rw [hF, ev_other (by decide)]; exact e33_0
          have e4_1 : F1.eval (.tmp 4) = (.pointer (some ⟨gA, 0, none⟩)) := by rw [hF]; exact ev_same (by rw [z0]; decide)
          have z1 : F1.tmps.size = 41 := by rw [hF, put_size]; exact z0
          clear hF hA
          refine wpAny_ready (rs := [3, 9]) (by kernel_rfl) (by simp) ?_
          refine AllReady.cons (o := { dst := some 30, op := Go.Op.call { callee := Go.Callee.value (Go.Operand.func 15), args := #[Go.Operand.tmp 29], argTypes := #[32] }, type := 27, pos := "ref.go:164", after := #[{ on := 2, ground := Go.Ground.data }], guard := none }) rfl (fun K hK => ?_) ?_
          · refine st_call1 (by rfl) 15 (.tmp 29) 32 (by rfl) (.slice (some ⟨b, off, none⟩) p c) e29_1 (hcf _) _ (Qt W1) (HC1.out _ (HQ1.out.trans Q1)) ?_
            intro W2 q2
            have Q2 := Q1.trans q2
            have HA2 := blk_qt HA1 q2
            refine hK _ _ ?_
            clear hK K
            refine gen_frame fun F2 hA => ?_
            have hF : F2 = F1.put (some 30) (.agg (u8s r1).toArray) := hA
            have hF2 := Lib.hid hF
            have e29_2 : F2.eval (.tmp 29) = Value.slice (some ⟨b, off, none⟩) p c := by rw [hF, ev_other (by decide)]; exact e29_1
            have e33_2 : F2.eval (.tmp 33) = Value.slice (some ⟨b, off + p * 32, none⟩) (n - p) (c - p) := by rw [hF, ev_other (by decide)]; exact e33_1
            have e4_2 : F2.eval (.tmp 4) = (.pointer (some ⟨gA, 0, none⟩)) := by rw [hF, ev_other (by decide)]; exact e4_1
            have e30_2 : F2.eval (.tmp 30) = (.agg (u8s r1).toArray) := by rw [hF]; exact ev_same (by rw [z1]; decide)
            have z2 : F2.tmps.size = 41 := by rw [hF, put_size]; exact z1
            clear hF hA
            refine wpAny_ready (rs := [7, 9]) (by kernel_rfl) (by simp) ?_
            refine AllReady.cons (o := { dst := some 34, op := Go.Op.call { callee := Go.Callee.value (Go.Operand.func 15), args := #[Go.Operand.tmp 33], argTypes := #[32] }, type := 27, pos := "ref.go:164", after := #[{ on := 6, ground := Go.Ground.data }, { on := 3, ground := Go.Ground.chain }], guard := none }) rfl (fun K hK => ?_) ?_
            · refine st_call1 (by rfl) 15 (.tmp 33) 32 (by rfl) (.slice (some ⟨b, off + p * 32, none⟩) (n - p) (c - p)) e33_2 (hcf _) _ (Qt W2) (HC2.out _ (HQ1.out.trans Q2)) ?_
              intro W3 q3
              have Q3 := Q2.trans q3
              have HA3 := blk_qt HA2 q3
              refine hK _ _ ?_
              clear hK K
              refine gen_frame fun F3 hA => ?_
              have hF : F3 = F2.put (some 34) (.agg (u8s r2).toArray) := hA
              have hF3 := Lib.hid hF
              have e29_3 : F3.eval (.tmp 29) = Value.slice (some ⟨b, off, none⟩) p c := by rw [hF, ev_other (by decide)]; exact e29_2
              have e33_3 : F3.eval (.tmp 33) = Value.slice (some ⟨b, off + p * 32, none⟩) (n - p) (c - p) := by rw [hF, ev_other (by decide)]; exact e33_2
              have e4_3 : F3.eval (.tmp 4) = (.pointer (some ⟨gA, 0, none⟩)) := by rw [hF, ev_other (by decide)]; exact e4_2
              have e30_3 : F3.eval (.tmp 30) = (.agg (u8s r1).toArray) := by rw [hF, ev_other (by decide)]; exact e30_2
              have e34_3 : F3.eval (.tmp 34) = (.agg (u8s r2).toArray) := by rw [hF]; exact ev_same (by rw [z2]; decide)
              have z3 : F3.tmps.size = 41 := by rw [hF, put_size]; exact z2
              clear hF hA
              refine wpAny_ready (rs := [9]) (by kernel_rfl) (by simp) ?_
              refine AllReady.cons (o := { dst := some 5, op := Go.Op.alloc 27, type := 0, pos := "ref.go:164", after := #[], guard := none }) rfl (fun K hK => ?_) ?_
              · refine st_alloc (by rfl) 27 (by rfl) _ halloc ?_
                intro gB W4 q4 lB HB4
                have Q4 := Q3.trans q4
                have bB : W0.heap.size ≤ gB := Nat.le_trans Q3.size lB
                have HA4 := blk_qt HA3 q4
                have ne : gA ≠ gB := Nat.ne_of_lt (Nat.lt_of_lt_of_le (blk_lt HA3) lB)
                refine hK _ _ ?_
                clear hK K
                refine gen_frame fun F4 hA => ?_
                have hF : F4 = F3.put (some 5) (.pointer (some ⟨gB, 0, none⟩)) := hA
                have hF4 := Lib.hid hF
                have e29_4 : F4.eval (.tmp 29) = Value.slice (some ⟨b, off, none⟩) p c := by rw [hF, ev_other (by decide)]; exact e29_3
                have e33_4 : F4.eval (.tmp 33) = Value.slice (some ⟨b, off + p * 32, none⟩) (n - p) (c - p) := by rw [hF, ev_other (by decide)]; exact e33_3
                have e4_4 : F4.eval (.tmp 4) = (.pointer (some ⟨gA, 0, none⟩)) := by rw [hF, ev_other (by decide)]; exact e4_3
                have e30_4 : F4.eval (.tmp 30) = (.agg (u8s r1).toArray) := by rw [hF, ev_other (by decide)]; exact e30_3
                have e34_4 : F4.eval (.tmp 34) = (.agg (u8s r2).toArray) := by rw [hF, ev_other (by decide)]; exact e34_3
                have e5_4 : F4.eval (.tmp 5) = (.pointer (some ⟨gB, 0, none⟩)) := by rw [hF]; exact ev_same (by rw [z3]; decide)
                have z4 : F4.tmps.size = 41 := by rw [hF, put_size]; exact z3
                clear hF hA
                refine wpAny_ready (rs := [10]) (by kernel_rfl) (by simp) ?_
                refine AllReady.cons (o := { dst := none, op := Go.Op.store 27 (Go.Operand.tmp 4) (Go.Operand.tmp 30), type := 0, pos := "ref.go:164", after := #[{ on := 8, ground := Go.Ground.data }, { on := 3, ground := Go.Ground.data }, { on := 7, ground := Go.Ground.chain }, { on := 0, ground := Go.Ground.phase }, { on := 1, ground := Go.Ground.phase }, { on := 2, ground := Go.Ground.phase }, { on := 3, ground := Go.Ground.phase }, { on := 4, ground := Go.Ground.textOnly Go.Departure.lateStores }, { on := 5, ground := Go.Ground.textOnly Go.Departure.lateStores }, { on := 6, ground := Go.Ground.textOnly Go.Departure.lateStoresUnsure }, { on := 7, ground := Go.Ground.phase }, { on := 8, ground := Go.Ground.phase }, { on := 9, ground := Go.Ground.phase }], guard := none }) rfl (fun K hK => ?_) ?_
                · refine st_store (by rfl) 27 (.tmp 4) (.tmp 30) (by rfl) gA (u8s r1).toArray e4_4 e30_4 27 _ HA4 HS1.out HZ1.out HU1.out ?_
                  intro W5 q5 HA5
                  have Q5 := qt_grown Q4 q5 bA
                  have HB5 := blk_far HB4 q5 (fun e => ne (by rw [e]))
                  refine hK _ _ ?_
                  clear hK K
                  refine gen_frame fun F5 hA => ?_
                  have hF : F5 = F4.put none undef := hA
                  have hF5 := Lib.hid hF
                  have e29_5 : F5.eval (.tmp 29) = Value.slice (some ⟨b, off, none⟩) p c := by rw [hF, ev_none]; exact e29_4
                  have e33_5 : F5.eval (.tmp 33) = Value.slice (some ⟨b, off + p * 32, none⟩) (n - p) (c - p) := by rw [hF, ev_none]; exact e33_4
                  have e4_5 : F5.eval (.tmp 4) = (.pointer (some ⟨gA, 0, none⟩)) := by rw [hF, ev_none]; exact e4_4
                  have e30_5 : F5.eval (.tmp 30) = (.agg (u8s r1).toArray) := by rw [hF, ev_none]; exact e30_4
                  have e34_5 : F5.eval (.tmp 34) = (.agg (u8s r2).toArray) := by rw [hF, ev_none]; exact e34_4
                  have e5_5 : F5.eval (.tmp 5) = (.pointer (some ⟨gB, 0, none⟩)) := by rw [hF, ev_none]; exact e5_4
                  have z5 : F5.tmps.size = 41 := by rw [hF, put_size]; exact z4
                  clear hF hA
                  refine wpAny_ready (rs := [11]) (by kernel_rfl) (by simp) ?_
                  refine AllReady.cons (o := { dst := none, op := Go.Op.store 27 (Go.Operand.tmp 5) (Go.Operand.tmp 34), type := 0, pos := "ref.go:164", after := #[{ on := 9, ground := Go.Ground.data }, { on := 7, ground := Go.Ground.data }, { on := 10, ground := Go.Ground.chain }, { on := 0, ground := Go.Ground.phase }, { on := 1, ground := Go.Ground.phase }, { on := 2, ground := Go.Ground.phase }, { on := 3, ground := Go.Ground.phase }, { on := 4, ground := Go.Ground.phase }, { on := 5, ground := Go.Ground.phase }, { on := 6, ground := Go.Ground.phase }, { on := 7, ground := Go.Ground.phase }, { on := 8, ground := Go.Ground.phase }, { on := 9, ground := Go.Ground.phase }, { on := 10, ground := Go.Ground.phase }], guard := none }) rfl (fun K hK => ?_) ?_
                  · refine st_store (by rfl) 27 (.tmp 5) (.tmp 34) (by rfl) gB (u8s r2).toArray e5_5 e34_5 27 _ HB5 HS2.out HZ2.out HU2.out ?_
                    intro W6 q6 HB6
                    have Q6 := qt_grown Q5 q6 bB
                    have HA6 := blk_far HA5 q6 (fun e => ne (by rw [e]))
                    refine hK _ _ ?_
                    clear hK K
                    refine gen_frame fun F6 hA => ?_
                    have hF : F6 = F5.put none undef := hA
                    have hF6 := Lib.hid hF
                    have e29_6 : F6.eval (.tmp 29) = Value.slice (some ⟨b, off, none⟩) p c := by rw [hF, ev_none]; exact e29_5
                    have e33_6 : F6.eval (.tmp 33) = Value.slice (some ⟨b, off + p * 32, none⟩) (n - p) (c - p) := by rw [hF, ev_none]; exact e33_5
                    have e4_6 : F6.eval (.tmp 4) = (.pointer (some ⟨gA, 0, none⟩)) := by rw [hF, ev_none]; exact e4_5
                    have e30_6 : F6.eval (.tmp 30) = (.agg (u8s r1).toArray) := by rw [hF, ev_none]; exact e30_5
                    have e34_6 : F6.eval (.tmp 34) = (.agg (u8s r2).toArray) := by rw [hF, ev_none]; exact e34_5
                    have e5_6 : F6.eval (.tmp 5) = (.pointer (some ⟨gB, 0, none⟩)) := by rw [hF, ev_none]; exact e5_5
                    have z6 : F6.tmps.size = 41 := by rw [hF, put_size]; exact z5
                    clear hF hA
                    refine wpAny_done (by kernel_rfl) ?_ _
                    rw [hF6.out, hF5.out, hF4.out, hF3.out, hF2.out, hF1.out, hF0.out]
                    go_wp2_with fail
                    go_meet
                    exact ⟨gA, gB, rfl, rfl, HR.out.below Q6, HA6, HB6⟩
                  exact AllReady.nil
                exact AllReady.nil
              exact AllReady.nil
            refine AllReady.cons (o := { dst := some 5, op := Go.Op.alloc 27, type := 0, pos := "ref.go:164", after := #[], guard := none }) rfl (fun K hK => ?_) ?_
            · refine st_alloc (by rfl) 27 (by rfl) _ halloc ?_
              intro gB W3 q3 lB HB3
              have Q3 := Q2.trans q3
              have bB : W0.heap.size ≤ gB := Nat.le_trans Q2.size lB
              have HA3 := blk_qt HA2 q3
              have ne : gA ≠ gB := Nat.ne_of_lt (Nat.lt_of_lt_of_le (blk_lt HA2) lB)
              refine hK _ _ ?_
              clear hK K
              refine gen_frame fun F3 hA => ?_
              have hF : F3 = F2.put (some 5) (.pointer (some ⟨gB, 0, none⟩)) := hA
              have hF3 := Lib.hid hF
              have e29_3 : F3.eval (.tmp 29) = Value.slice (some ⟨b, off, none⟩) p c := by rw [hF, ev_other (by decide)]; exact e29_2
              have e33_3 : F3.eval (.tmp 33) = Value.slice (some ⟨b, off + p * 32, none⟩) (n - p) (c - p) := by rw [hF, ev_other (by decide)]; exact e33_2
              have e4_3 : F3.eval (.tmp 4) = (.pointer (some ⟨gA, 0, none⟩)) := by rw [hF, ev_other (by decide)]; exact e4_2
              have e30_3 : F3.eval (.tmp 30) = (.agg (u8s r1).toArray) := by rw [hF, ev_other (by decide)]; exact e30_2
              have e5_3 : F3.eval (.tmp 5) = (.pointer (some ⟨gB, 0, none⟩)) := by rw [hF]; exact ev_same (by rw [z2]; decide)
              have z3 : F3.tmps.size = 41 := by rw [hF, put_size]; exact z2
              clear hF hA
              refine wpAny_ready (rs := [7]) (by kernel_rfl) (by simp) ?_
              refine AllReady.cons (o := { dst := some 34, op := Go.Op.call { callee := Go.Callee.value (Go.Operand.func 15), args := #[Go.Operand.tmp 33], argTypes := #[32] }, type := 27, pos := "ref.go:164", after := #[{ on := 6, ground := Go.Ground.data }, { on := 3, ground := Go.Ground.chain }], guard := none }) rfl (fun K hK => ?_) ?_
              · refine st_call1 (by rfl) 15 (.tmp 33) 32 (by rfl) (.slice (some ⟨b, off + p * 32, none⟩) (n - p) (c - p)) e33_3 (hcf _) _ (Qt W3) (HC2.out _ (HQ1.out.trans Q3)) ?_
                intro W4 q4
                have Q4 := Q3.trans q4
                have HA4 := blk_qt HA3 q4
                have HB4 := blk_qt HB3 q4
                refine hK _ _ ?_
                clear hK K
                refine gen_frame fun F4 hA => ?_
                have hF : F4 = F3.put (some 34) (.agg (u8s r2).toArray) := hA
                have hF4 := Lib.hid hF
                have e29_4 : F4.eval (.tmp 29) = Value.slice (some ⟨b, off, none⟩) p c := by rw [hF, ev_other (by decide)]; exact e29_3
                have e33_4 : F4.eval (.tmp 33) = Value.slice (some ⟨b, off + p * 32, none⟩) (n - p) (c - p) := by rw [hF, ev_other (by decide)]; exact e33_3
                have e4_4 : F4.eval (.tmp 4) = (.pointer (some ⟨gA, 0, none⟩)) := by rw [hF, ev_other (by decide)]; exact e4_3
                have e30_4 : F4.eval (.tmp 30) = (.agg (u8s r1).toArray) := by rw [hF, ev_other (by decide)]; exact e30_3
                have e5_4 : F4.eval (.tmp 5) = (.pointer (some ⟨gB, 0, none⟩)) := by rw [hF, ev_other (by decide)]; exact e5_3
                have e34_4 : F4.eval (.tmp 34) = (.agg (u8s r2).toArray) := by rw [hF]; exact ev_same (by rw [z3]; decide)
                have z4 : F4.tmps.size = 41 := by rw [hF, put_size]; exact z3
                clear hF hA
                refine wpAny_ready (rs := [10]) (by kernel_rfl) (by simp) ?_
                refine AllReady.cons (o := { dst := none, op := Go.Op.store 27 (Go.Operand.tmp 4) (Go.Operand.tmp 30), type := 0, pos := "ref.go:164", after := #[{ on := 8, ground := Go.Ground.data }, { on := 3, ground := Go.Ground.data }, { on := 7, ground := Go.Ground.chain }, { on := 0, ground := Go.Ground.phase }, { on := 1, ground := Go.Ground.phase }, { on := 2, ground := Go.Ground.phase }, { on := 3, ground := Go.Ground.phase }, { on := 4, ground := Go.Ground.textOnly Go.Departure.lateStores }, { on := 5, ground := Go.Ground.textOnly Go.Departure.lateStores }, { on := 6, ground := Go.Ground.textOnly Go.Departure.lateStoresUnsure }, { on := 7, ground := Go.Ground.phase }, { on := 8, ground := Go.Ground.phase }, { on := 9, ground := Go.Ground.phase }], guard := none }) rfl (fun K hK => ?_) ?_
                · refine st_store (by rfl) 27 (.tmp 4) (.tmp 30) (by rfl) gA (u8s r1).toArray e4_4 e30_4 27 _ HA4 HS1.out HZ1.out HU1.out ?_
                  intro W5 q5 HA5
                  have Q5 := qt_grown Q4 q5 bA
                  have HB5 := blk_far HB4 q5 (fun e => ne (by rw [e]))
                  refine hK _ _ ?_
                  clear hK K
                  refine gen_frame fun F5 hA => ?_
                  have hF : F5 = F4.put none undef := hA
                  have hF5 := Lib.hid hF
                  have e29_5 : F5.eval (.tmp 29) = Value.slice (some ⟨b, off, none⟩) p c := by rw [hF, ev_none]; exact e29_4
                  have e33_5 : F5.eval (.tmp 33) = Value.slice (some ⟨b, off + p * 32, none⟩) (n - p) (c - p) := by rw [hF, ev_none]; exact e33_4
                  have e4_5 : F5.eval (.tmp 4) = (.pointer (some ⟨gA, 0, none⟩)) := by rw [hF, ev_none]; exact e4_4
                  have e30_5 : F5.eval (.tmp 30) = (.agg (u8s r1).toArray) := by rw [hF, ev_none]; exact e30_4
                  have e5_5 : F5.eval (.tmp 5) = (.pointer (some ⟨gB, 0, none⟩)) := by rw [hF, ev_none]; exact e5_4
                  have e34_5 : F5.eval (.tmp 34) = (.agg (u8s r2).toArray) := by rw [hF, ev_none]; exact e34_4
                  have z5 : F5.tmps.size = 41 := by rw [hF, put_size]; exact z4
                  clear hF hA
                  refine wpAny_ready (rs := [11]) (by kernel_rfl) (by simp) ?_
                  refine AllReady.cons (o := { dst := none, op := Go.Op.store 27 (Go.Operand.tmp 5) (Go.Operand.tmp 34), type := 0, pos := "ref.go:164", after := #[{ on := 9, ground := Go.Ground.data }, { on := 7, ground := Go.Ground.data }, { on := 10, ground := Go.Ground.chain }, { on := 0, ground := Go.Ground.phase }, { on := 1, ground := Go.Ground.phase }, { on := 2, ground := Go.Ground.phase }, { on := 3, ground := Go.Ground.phase }, { on := 4, ground := Go.Ground.phase }, { on := 5, ground := Go.Ground.phase }, { on := 6, ground := Go.Ground.phase }, { on := 7, ground := Go.Ground.phase }, { on := 8, ground := Go.Ground.phase }, { on := 9, ground := Go.Ground.phase }, { on := 10, ground := Go.Ground.phase }], guard := none }) rfl (fun K hK => ?_) ?_
                  · refine st_store (by rfl) 27 (.tmp 5) (.tmp 34) (by rfl) gB (u8s r2).toArray e5_5 e34_5 27 _ HB5 HS2.out HZ2.out HU2.out ?_
                    intro W6 q6 HB6
                    have Q6 := qt_grown Q5 q6 bB
                    have HA6 := blk_far HA5 q6 (fun e => ne (by rw [e]))
                    refine hK _ _ ?_
                    clear hK K
                    refine gen_frame fun F6 hA => ?_
                    have hF : F6 = F5.put none undef := hA
                    have hF6 := Lib.hid hF
                    have e29_6 : F6.eval (.tmp 29) = Value.slice (some ⟨b, off, none⟩) p c := by rw [hF, ev_none]; exact e29_5
                    have e33_6 : F6.eval (.tmp 33) = Value.slice (some ⟨b, off + p * 32, none⟩) (n - p) (c - p) := by rw [hF, ev_none]; exact e33_5
                    have e4_6 : F6.eval (.tmp 4) = (.pointer (some ⟨gA, 0, none⟩)) := by rw [hF, ev_none]; exact e4_5
                    have e30_6 : F6.eval (.tmp 30) = (.agg (u8s r1).toArray) := by rw [hF, ev_none]; exact e30_5
                    have e5_6 : F6.eval (.tmp 5) = (.pointer (some ⟨gB, 0, none⟩)) := by rw [hF, ev_none]; exact e5_5
                    have e34_6 : F6.eval (.tmp 34) = (.agg (u8s r2).toArray) := by rw [hF, ev_none]; exact e34_5
                    have z6 : F6.tmps.size = 41 := by rw [hF, put_size]; exact z5
                    clear hF hA
                    refine wpAny_done (by kernel_rfl) ?_ _
                    rw [hF6.out, hF5.out, hF4.out, hF3.out, hF2.out, hF1.out, hF0.out]
                    go_wp2_with fail
                    go_meet
                    exact ⟨gA, gB, rfl, rfl, HR.out.below Q6, HA6, HB6⟩
                  exact AllReady.nil
                exact AllReady.nil
              exact AllReady.nil
            exact AllReady.nil
          refine AllReady.cons (o := { dst := some 5, op := Go.Op.alloc 27, type := 0, pos := "ref.go:164", after := #[], guard := none }) rfl (fun K hK => ?_) ?_
          · refine st_alloc (by rfl) 27 (by rfl) _ halloc ?_
            intro gB W2 q2 lB HB2
            have Q2 := Q1.trans q2
            have bB : W0.heap.size ≤ gB := Nat.le_trans Q1.size lB
            have HA2 := blk_qt HA1 q2
            have ne : gA ≠ gB := Nat.ne_of_lt (Nat.lt_of_lt_of_le (blk_lt HA1) lB)
            refine hK _ _ ?_
            clear hK K
            refine gen_frame fun F2 hA => ?_
            have hF : F2 = F1.put (some 5) (.pointer (some ⟨gB, 0, none⟩)) := hA
            have hF2 := Lib.hid hF
            have e29_2 : F2.eval (.tmp 29) = Value.slice (some ⟨b, off, none⟩) p c := by rw [hF, ev_other (by decide)]; exact e29_1
            have e33_2 : F2.eval (.tmp 33) = Value.slice (some ⟨b, off + p * 32, none⟩) (n - p) (c - p) := by rw [hF, ev_other (by decide)]; exact e33_1
            have e4_2 : F2.eval (.tmp 4) = (.pointer (some ⟨gA, 0, none⟩)) := by rw [hF, ev_other (by decide)]; exact e4_1
            have e5_2 : F2.eval (.tmp 5) = (.pointer (some ⟨gB, 0, none⟩)) := by rw [hF]; exact ev_same (by rw [z1]; decide)
            have z2 : F2.tmps.size = 41 := by rw [hF, put_size]; exact z1
            clear hF hA
            refine wpAny_ready (rs := [3]) (by kernel_rfl) (by simp) ?_
            refine AllReady.cons (o := { dst := some 30, op := Go.Op.call { callee := Go.Callee.value (Go.Operand.func 15), args := #[Go.Operand.tmp 29], argTypes := #[32] }, type := 27, pos := "ref.go:164", after := #[{ on := 2, ground := Go.Ground.data }], guard := none }) rfl (fun K hK => ?_) ?_
            · refine st_call1 (by rfl) 15 (.tmp 29) 32 (by rfl) (.slice (some ⟨b, off, none⟩) p c) e29_2 (hcf _) _ (Qt W2) (HC1.out _ (HQ1.out.trans Q2)) ?_
              intro W3 q3
              have Q3 := Q2.trans q3
              have HA3 := blk_qt HA2 q3
              have HB3 := blk_qt HB2 q3
              refine hK _ _ ?_
              clear hK K
              refine gen_frame fun F3 hA => ?_
              have hF : F3 = F2.put (some 30) (.agg (u8s r1).toArray) := hA
              have hF3 := Lib.hid hF
              have e29_3 : F3.eval (.tmp 29) = Value.slice (some ⟨b, off, none⟩) p c := by rw [hF, ev_other (by decide)]; exact e29_2
              have e33_3 : F3.eval (.tmp 33) = Value.slice (some ⟨b, off + p * 32, none⟩) (n - p) (c - p) := by rw [hF, ev_other (by decide)]; exact e33_2
              have e4_3 : F3.eval (.tmp 4) = (.pointer (some ⟨gA, 0, none⟩)) := by rw [hF, ev_other (by decide)]; exact e4_2
              have e5_3 : F3.eval (.tmp 5) = (.pointer (some ⟨gB, 0, none⟩)) := by rw [hF, ev_other (by decide)]; exact e5_2
              have e30_3 : F3.eval (.tmp 30) = (.agg (u8s r1).toArray) := by rw [hF]; exact ev_same (by rw [z2]; decide)
              have z3 : F3.tmps.size = 41 := by rw [hF, put_size]; exact z2
              clear hF hA
              refine wpAny_ready (rs := [7]) (by kernel_rfl) (by simp) ?_
              refine AllReady.cons (o := { dst := some 34, op := Go.Op.call { callee := Go.Callee.value (Go.Operand.func 15), args := #[Go.Operand.tmp 33], argTypes := #[32] }, type := 27, pos := "ref.go:164", after := #[{ on := 6, ground := Go.Ground.data }, { on := 3, ground := Go.Ground.chain }], guard := none }) rfl (fun K hK => ?_) ?_
              · refine st_call1 (by rfl) 15 (.tmp 33) 32 (by rfl) (.slice (some ⟨b, off + p * 32, none⟩) (n - p) (c - p)) e33_3 (hcf _) _ (Qt W3) (HC2.out _ (HQ1.out.trans Q3)) ?_
                intro W4 q4
                have Q4 := Q3.trans q4
                have HA4 := blk_qt HA3 q4
                have HB4 := blk_qt HB3 q4
                refine hK _ _ ?_
                clear hK K
                refine gen_frame fun F4 hA => ?_
                have hF : F4 = F3.put (some 34) (.agg (u8s r2).toArray) := hA
                have hF4 := Lib.hid hF
                have e29_4 : F4.eval (.tmp 29) = Value.slice (some ⟨b, off, none⟩) p c := by rw [hF, ev_other (by decide)]; exact e29_3
                have e33_4 : F4.eval (.tmp 33) = Value.slice (some ⟨b, off + p * 32, none⟩) (n - p) (c - p) := by rw [hF, ev_other (by decide)]; exact e33_3
                have e4_4 : F4.eval (.tmp 4) = (.pointer (some ⟨gA, 0, none⟩)) := by rw [hF, ev_other (by decide)]; exact e4_3
                have e5_4 : F4.eval (.tmp 5) = (.pointer (some ⟨gB, 0, none⟩)) := by rw [hF, ev_other (by decide)]; exact e5_3
                have e30_4 : F4.eval (.tmp 30) = (.agg (u8s r1).toArray) := by rw [hF, ev_other (by decide)]; exact e30_3
                have e34_4 : F4.eval (.tmp 34) = (.agg (u8s r2).toArray) := by rw [hF]; exact ev_same (by rw [z3]; decide)
                have z4 : F4.tmps.size = 41 := by rw [hF, put_size]; exact z3
                clear hF hA
                refine wpAny_ready (rs := [10]) (by kernel_rfl) (by simp) ?_
                refine AllReady.cons (o := { dst := none, op := Go.Op.store 27 (Go.Operand.tmp 4) (Go.Operand.tmp 30), type := 0, pos := "ref.go:164", after := #[{ on := 8, ground := Go.Ground.data }, { on := 3, ground := Go.Ground.data }, { on := 7, ground := Go.Ground.chain }, { on := 0, ground := Go.Ground.phase }, { on := 1, ground := Go.Ground.phase }, { on := 2, ground := Go.Ground.phase }, { on := 3, ground := Go.Ground.phase }, { on := 4, ground := Go.Ground.textOnly Go.Departure.lateStores }, { on := 5, ground := Go.Ground.textOnly Go.Departure.lateStores }, { on := 6, ground := Go.Ground.textOnly Go.Departure.lateStoresUnsure }, { on := 7, ground := Go.Ground.phase }, { on := 8, ground := Go.Ground.phase }, { on := 9, ground := Go.Ground.phase }], guard := none }) rfl (fun K hK => ?_) ?_
                · refine st_store (by rfl) 27 (.tmp 4) (.tmp 30) (by rfl) gA (u8s r1).toArray e4_4 e30_4 27 _ HA4 HS1.out HZ1.out HU1.out ?_
                  intro W5 q5 HA5
                  have Q5 := qt_grown Q4 q5 bA
                  have HB5 := blk_far HB4 q5 (fun e => ne (by rw [e]))
                  refine hK _ _ ?_
                  clear hK K
                  refine gen_frame fun F5 hA => ?_
                  have hF : F5 = F4.put none undef := hA
                  have hF5 := Lib.hid hF
                  have e29_5 : F5.eval (.tmp 29) = Value.slice (some ⟨b, off, none⟩) p c := by rw [hF, ev_none]; exact e29_4
                  have e33_5 : F5.eval (.tmp 33) = Value.slice (some ⟨b, off + p * 32, none⟩) (n - p) (c - p) := by rw [hF, ev_none]; exact e33_4
                  have e4_5 : F5.eval (.tmp 4) = (.pointer (some ⟨gA, 0, none⟩)) := by rw [hF, ev_none]; exact e4_4
                  have e5_5 : F5.eval (.tmp 5) = (.pointer (some ⟨gB, 0, none⟩)) := by rw [hF, ev_none]; exact e5_4
                  have e30_5 : F5.eval (.tmp 30) = (.agg (u8s r1).toArray) := by rw [hF, ev_none]; exact e30_4
                  have e34_5 : F5.eval (.tmp 34) = (.agg (u8s r2).toArray) := by rw [hF, ev_none]; exact e34_4
                  have z5 : F5.tmps.size = 41 := by rw [hF, put_size]; exact z4
                  clear hF hA
                  refine wpAny_ready (rs := [11]) (by kernel_rfl) (by simp) ?_
                  refine AllReady.cons (o := { dst := none, op := Go.Op.store 27 (Go.Operand.tmp 5) (Go.Operand.tmp 34), type := 0, pos := "ref.go:164", after := #[{ on := 9, ground := Go.Ground.data }, { on := 7, ground := Go.Ground.data }, { on := 10, ground := Go.Ground.chain }, { on := 0, ground := Go.Ground.phase }, { on := 1, ground := Go.Ground.phase }, { on := 2, ground := Go.Ground.phase }, { on := 3, ground := Go.Ground.phase }, { on := 4, ground := Go.Ground.phase }, { on := 5, ground := Go.Ground.phase }, { on := 6, ground := Go.Ground.phase }, { on := 7, ground := Go.Ground.phase }, { on := 8, ground := Go.Ground.phase }, { on := 9, ground := Go.Ground.phase }, { on := 10, ground := Go.Ground.phase }], guard := none }) rfl (fun K hK => ?_) ?_
                  · refine st_store (by rfl) 27 (.tmp 5) (.tmp 34) (by rfl) gB (u8s r2).toArray e5_5 e34_5 27 _ HB5 HS2.out HZ2.out HU2.out ?_
                    intro W6 q6 HB6
                    have Q6 := qt_grown Q5 q6 bB
                    have HA6 := blk_far HA5 q6 (fun e => ne (by rw [e]))
                    refine hK _ _ ?_
                    clear hK K
                    refine gen_frame fun F6 hA => ?_
                    have hF : F6 = F5.put none undef := hA
                    have hF6 := Lib.hid hF
                    have e29_6 : F6.eval (.tmp 29) = Value.slice (some ⟨b, off, none⟩) p c := by rw [hF, ev_none]; exact e29_5
                    have e33_6 : F6.eval (.tmp 33) = Value.slice (some ⟨b, off + p * 32, none⟩) (n - p) (c - p) := by rw [hF, ev_none]; exact e33_5
                    have e4_6 : F6.eval (.tmp 4) = (.pointer (some ⟨gA, 0, none⟩)) := by rw [hF, ev_none]; exact e4_5
                    have e5_6 : F6.eval (.tmp 5) = (.pointer (some ⟨gB, 0, none⟩)) := by rw [hF, ev_none]; exact e5_5
                    have e30_6 : F6.eval (.tmp 30) = (.agg (u8s r1).toArray) := by rw [hF, ev_none]; exact e30_5
                    have e34_6 : F6.eval (.tmp 34) = (.agg (u8s r2).toArray) := by rw [hF, ev_none]; exact e34_5
                    have z6 : F6.tmps.size = 41 := by rw [hF, put_size]; exact z5
                    clear hF hA
                    refine wpAny_done (by kernel_rfl) ?_ _
                    rw [hF6.out, hF5.out, hF4.out, hF3.out, hF2.out, hF1.out, hF0.out]
                    go_wp2_with fail
                    go_meet
                    exact ⟨gA, gB, rfl, rfl, HR.out.below Q6, HA6, HB6⟩
                  exact AllReady.nil
                exact AllReady.nil
              exact AllReady.nil
            exact AllReady.nil
          exact AllReady.nil
        refine AllReady.cons (o := { dst := some 5, op := Go.Op.alloc 27, type := 0, pos := "ref.go:164", after := #[], guard := none }) rfl (fun K hK => ?_) ?_
        · refine st_alloc (by rfl) 27 (by rfl) _ halloc ?_
          intro gB W1 q1 lB HB1
          have Q1 := Q0.trans q1
          have bB : W0.heap.size ≤ gB := Nat.le_trans Q0.size lB
          refine hK _ _ ?_
          clear hK K
          refine gen_frame fun F1 hA => ?_
          have hF : F1 = F0.put (some 5) (.pointer (some ⟨gB, 0, none⟩)) := hA
          have hF1 := Lib.hid hF
          have e29_1 : F1.eval (.tmp 29) = Value.slice (some ⟨b, off, none⟩) p c := by rw [hF, ev_other (by decide)]; exact e29_0
          have e33_1 : F1.eval (.tmp 33) = Value.slice (some ⟨b, off + p * 32, none⟩) (n - p) (c - p) := by rw [hF, ev_other (by decide)]; exact e33_0
          have e5_1 : F1.eval (.tmp 5) = (.pointer (some ⟨gB, 0, none⟩)) := by rw [hF]; exact ev_same (by rw [z0]; decide)
          have z1 : F1.tmps.size = 41 := by rw [hF, put_size]; exact z0
          clear hF hA
          refine wpAny_ready (rs := [3, 8]) (by kernel_rfl) (by simp) ?_
          refine AllReady.cons (o := { dst := some 30, op := Go.Op.call { callee := Go.Callee.value (Go.Operand.func 15), args := #[Go.Operand.tmp 29], argTypes := #[32] }, type := 27, pos := "ref.go:164", after := #[{ on := 2, ground := Go.Ground.data }], guard := none }) rfl (fun K hK => ?_) ?_
          · refine st_call1 (by rfl) 15 (.tmp 29) 32 (by rfl) (.slice (some ⟨b, off, none⟩) p c) e29_1 (hcf _) _ (Qt W1) (HC1.out _ (HQ1.out.trans Q1)) ?_
            intro W2 q2
            have Q2 := Q1.trans q2
            have HB2 := blk_qt HB1 q2
            refine hK _ _ ?_
            clear hK K
            refine gen_frame fun F2 hA => ?_
            have hF : F2 = F1.put (some 30) (.agg (u8s r1).toArray) := hA
            have hF2 := Lib.hid hF
            have e29_2 : F2.eval (.tmp 29) = Value.slice (some ⟨b, off, none⟩) p c := by rw [hF, ev_other (by decide)]; exact e29_1
            have e33_2 : F2.eval (.tmp 33) = Value.slice (some ⟨b, off + p * 32, none⟩) (n - p) (c - p) := by rw [hF, ev_other (by decide)]; exact e33_1
            have e5_2 : F2.eval (.tmp 5) = (.pointer (some ⟨gB, 0, none⟩)) := by rw [hF, ev_other (by decide)]; exact e5_1
            have e30_2 : F2.eval (.tmp 30) = (.agg (u8s r1).toArray) := by rw [hF]; exact ev_same (by rw [z1]; decide)
            have z2 : F2.tmps.size = 41 := by rw [hF, put_size]; exact z1
            clear hF hA
            refine wpAny_ready (rs := [7, 8]) (by kernel_rfl) (by simp) ?_
            refine AllReady.cons (o := { dst := some 34, op := Go.Op.call { callee := Go.Callee.value (Go.Operand.func 15), args := #[Go.Operand.tmp 33], argTypes := #[32] }, type := 27, pos := "ref.go:164", after := #[{ on := 6, ground := Go.Ground.data }, { on := 3, ground := Go.Ground.chain }], guard := none }) rfl (fun K hK => ?_) ?_
            · refine st_call1 (by rfl) 15 (.tmp 33) 32 (by rfl) (.slice (some ⟨b, off + p * 32, none⟩) (n - p) (c - p)) e33_2 (hcf _) _ (Qt W2) (HC2.out _ (HQ1.out.trans Q2)) ?_
              intro W3 q3
              have Q3 := Q2.trans q3
              have HB3 := blk_qt HB2 q3
              refine hK _ _ ?_
              clear hK K
              refine gen_frame fun F3 hA => ?_
              have hF : F3 = F2.put (some 34) (.agg (u8s r2).toArray) := hA
              have hF3 := Lib.hid hF
              have e29_3 : F3.eval (.tmp 29) = Value.slice (some ⟨b, off, none⟩) p c := by rw [hF, ev_other (by decide)]; exact e29_2
              have e33_3 : F3.eval (.tmp 33) = Value.slice (some ⟨b, off + p * 32, none⟩) (n - p) (c - p) := by rw [hF, ev_other (by decide)]; exact e33_2
              have e5_3 : F3.eval (.tmp 5) = (.pointer (some ⟨gB, 0, none⟩)) := by rw [hF, ev_other (by decide)]; exact e5_2
              have e30_3 : F3.eval (.tmp 30) = (.agg (u8s r1).toArray) := by rw [hF, ev_other (by decide)]; exact e30_2
              have e34_3 : F3.eval (.tmp 34) = (.agg (u8s r2).toArray) := by rw [hF]; exact ev_same (by rw [z2]; decide)
              have z3 : F3.tmps.size = 41 := by rw [hF, put_size]; exact z2
              clear hF hA
              refine wpAny_ready (rs := [8]) (by kernel_rfl) (by simp) ?_
              refine AllReady.cons (o := { dst := some 4, op := Go.Op.alloc 27, type := 0, pos := "ref.go:164", after := #[], guard := none }) rfl (fun K hK => ?_) ?_
              · refine st_alloc (by rfl) 27 (by rfl) _ halloc ?_
                intro gA W4 q4 lA HA4
                have Q4 := Q3.trans q4
                have bA : W0.heap.size ≤ gA := Nat.le_trans Q3.size lA
                have HB4 := blk_qt HB3 q4
                have ne : gB ≠ gA := Nat.ne_of_lt (Nat.lt_of_lt_of_le (blk_lt HB3) lA)
                refine hK _ _ ?_
                clear hK K
                refine gen_frame fun F4 hA => ?_
                have hF : F4 = F3.put (some 4) (.pointer (some ⟨gA, 0, none⟩)) := hA
                have hF4 := Lib.hid hF
                have e29_4 : F4.eval (.tmp 29) = Value.slice (some ⟨b, off, none⟩) p c := by rw [hF, ev_other (by decide)]; exact e29_3
                have e33_4 : F4.eval (.tmp 33) = Value.slice (some ⟨b, off + p * 32, none⟩) (n - p) (c - p) := by rw [hF, ev_other (by decide)]; exact e33_3
                have e5_4 : F4.eval (.tmp 5) = (.pointer (some ⟨gB, 0, none⟩)) := by rw [hF, ev_other (by decide)]; exact e5_3
                have e30_4 : F4.eval (.tmp 30) = (.agg (u8s r1).toArray) := by rw [hF, ev_other (by decide)]; exact e30_3
                have e34_4 : F4.eval (.tmp 34) = (.agg (u8s r2).toArray) := by rw [hF, ev_other (by decide)]; exact e34_3
                have e4_4 : F4.eval (.tmp 4) = (.pointer (some ⟨gA, 0, none⟩)) := by rw [hF]; exact ev_same (by rw [z3]; decide)
                have z4 : F4.tmps.size = 41 := by rw [hF, put_size]; exact z3
                clear hF hA
                refine wpAny_ready (rs := [10]) (by kernel_rfl) (by simp) ?_
                refine AllReady.cons (o := { dst := none, op := Go.Op.store 27 (Go.Operand.tmp 4) (Go.Operand.tmp 30), type := 0, pos := "ref.go:164", after := #[{ on := 8, ground := Go.Ground.data }, { on := 3, ground := Go.Ground.data }, { on := 7, ground := Go.Ground.chain }, { on := 0, ground := Go.Ground.phase }, { on := 1, ground := Go.Ground.phase }, { on := 2, ground := Go.Ground.phase }, { on := 3, ground := Go.Ground.phase }, { on := 4, ground := Go.Ground.textOnly Go.Departure.lateStores }, { on := 5, ground := Go.Ground.textOnly Go.Departure.lateStores }, { on := 6, ground := Go.Ground.textOnly Go.Departure.lateStoresUnsure }, { on := 7, ground := Go.Ground.phase }, { on := 8, ground := Go.Ground.phase }, { on := 9, ground := Go.Ground.phase }], guard := none }) rfl (fun K hK => ?_) ?_
                · refine st_store (by rfl) 27 (.tmp 4) (.tmp 30) (by rfl) gA (u8s r1).toArray e4_4 e30_4 27 _ HA4 HS1.out HZ1.out HU1.out ?_
                  intro W5 q5 HA5
                  have Q5 := qt_grown Q4 q5 bA
                  have HB5 := blk_far HB4 q5 (fun e => ne (by rw [e]))
                  refine hK _ _ ?_
                  clear hK K
                  refine gen_frame fun F5 hA => ?_
                  have hF : F5 = F4.put none undef := hA
                  have hF5 := Lib.hid hF
                  have e29_5 : F5.eval (.tmp 29) = Value.slice (some ⟨b, off, none⟩) p c := by rw [hF, ev_none]; exact e29_4
                  have e33_5 : F5.eval (.tmp 33) = Value.slice (some ⟨b, off + p * 32, none⟩) (n - p) (c - p) := by rw [hF, ev_none]; exact e33_4
                  have e5_5 : F5.eval (.tmp 5) = (.pointer (some ⟨gB, 0, none⟩)) := by rw [hF, ev_none]; exact e5_4
                  have e30_5 : F5.eval (.tmp 30) = (.agg (u8s r1).toArray) := by rw [hF, ev_none]; exact e30_4
                  have e34_5 : F5.eval (.tmp 34) = (.agg (u8s r2).toArray) := by rw [hF, ev_none]; exact e34_4
                  have e4_5 : F5.eval (.tmp 4) = (.pointer (some ⟨gA, 0, none⟩)) := by rw [hF, ev_none]; exact e4_4
                  have z5 : F5.tmps.size = 41 := by rw [hF, put_size]; exact z4
                  clear hF hA
                  refine wpAny_ready (rs := [11]) (by kernel_rfl) (by simp) ?_
                  refine AllReady.cons (o := { dst := none, op := Go.Op.store 27 (Go.Operand.tmp 5) (Go.Operand.tmp 34), type := 0, pos := "ref.go:164", after := #[{ on := 9, ground := Go.Ground.data }, { on := 7, ground := Go.Ground.data }, { on := 10, ground := Go.Ground.chain }, { on := 0, ground := Go.Ground.phase }, { on := 1, ground := Go.Ground.phase }, { on := 2, ground := Go.Ground.phase }, { on := 3, ground := Go.Ground.phase }, { on := 4, ground := Go.Ground.phase }, { on := 5, ground := Go.Ground.phase }, { on := 6, ground := Go.Ground.phase }, { on := 7, ground := Go.Ground.phase }, { on := 8, ground := Go.Ground.phase }, { on := 9, ground := Go.Ground.phase }, { on := 10, ground := Go.Ground.phase }], guard := none }) rfl (fun K hK => ?_) ?_
                  · refine st_store (by rfl) 27 (.tmp 5) (.tmp 34) (by rfl) gB (u8s r2).toArray e5_5 e34_5 27 _ HB5 HS2.out HZ2.out HU2.out ?_
                    intro W6 q6 HB6
                    have Q6 := qt_grown Q5 q6 bB
                    have HA6 := blk_far HA5 q6 (fun e => ne (by rw [e]))
                    refine hK _ _ ?_
                    clear hK K
                    refine gen_frame fun F6 hA => ?_
                    have hF : F6 = F5.put none undef := hA
                    have hF6 := Lib.hid hF
                    have e29_6 : F6.eval (.tmp 29) = Value.slice (some ⟨b, off, none⟩) p c := by rw [hF, ev_none]; exact e29_5
                    have e33_6 : F6.eval (.tmp 33) = Value.slice (some ⟨b, off + p * 32, none⟩) (n - p) (c - p) := by rw [hF, ev_none]; exact e33_5
                    have e5_6 : F6.eval (.tmp 5) = (.pointer (some ⟨gB, 0, none⟩)) := by rw [hF, ev_none]; exact e5_5
                    have e30_6 : F6.eval (.tmp 30) = (.agg (u8s r1).toArray) := by rw [hF, ev_none]; exact e30_5
                    have e34_6 : F6.eval (.tmp 34) = (.agg (u8s r2).toArray) := by rw [hF, ev_none]; exact e34_5
                    have e4_6 : F6.eval (.tmp 4) = (.pointer (some ⟨gA, 0, none⟩)) := by rw [hF, ev_none]; exact e4_5
                    have z6 : F6.tmps.size = 41 := by rw [hF, put_size]; exact z5
                    clear hF hA
                    refine wpAny_done (by kernel_rfl) ?_ _
                    rw [hF6.out, hF5.out, hF4.out, hF3.out, hF2.out, hF1.out, hF0.out]
                    go_wp2_with fail
                    go_meet
                    exact ⟨gA, gB, rfl, rfl, HR.out.below Q6, HA6, HB6⟩
                  exact AllReady.nil
                exact AllReady.nil
              exact AllReady.nil
            refine AllReady.cons (o := { dst := some 4, op := Go.Op.alloc 27, type := 0, pos := "ref.go:164", after := #[], guard := none }) rfl (fun K hK => ?_) ?_
            · refine st_alloc (by rfl) 27 (by rfl) _ halloc ?_
              intro gA W3 q3 lA HA3
              have Q3 := Q2.trans q3
              have bA : W0.heap.size ≤ gA := Nat.le_trans Q2.size lA
              have HB3 := blk_qt HB2 q3
              have ne : gB ≠ gA := Nat.ne_of_lt (Nat.lt_of_lt_of_le (blk_lt HB2) lA)
              refine hK _ _ ?_
              clear hK K
              refine gen_frame fun F3 hA => ?_
              have hF : F3 = F2.put (some 4) (.pointer (some ⟨gA, 0, none⟩)) := hA
              have hF3 := Lib.hid hF
              have e29_3 : F3.eval (.tmp 29) = Value.slice (some ⟨b, off, none⟩) p c := by rw [hF, ev_other (by decide)]; exact e29_2
              have e33_3 : F3.eval (.tmp 33) = Value.slice (some ⟨b, off + p * 32, none⟩) (n - p) (c - p) := by rw [hF, ev_other (by decide)]; exact e33_2
              have e5_3 : F3.eval (.tmp 5) = (.pointer (some ⟨gB, 0, none⟩)) := by rw [hF, ev_other (by decide)]; exact e5_2
              have e30_3 : F3.eval (.tmp 30) = (.agg (u8s r1).toArray) := by rw [hF, ev_other (by decide)]; exact e30_2
              have e4_3 : F3.eval (.tmp 4) = (.pointer (some ⟨gA, 0, none⟩)) := by rw [hF]; exact ev_same (by rw [z2]; decide)
              have z3 : F3.tmps.size = 41 := by rw [hF, put_size]; exact z2
              clear hF hA
              refine wpAny_ready (rs := [7]) (by kernel_rfl) (by simp) ?_
              refine AllReady.cons (o := { dst := some 34, op := Go.Op.call { callee := Go.Callee.value (Go.Operand.func 15), args := #[Go.Operand.tmp 33], argTypes := #[32] }, type := 27, pos := "ref.go:164", after := #[{ on := 6, ground := Go.Ground.data }, { on := 3, ground := Go.Ground.chain }], guard := none }) rfl (fun K hK => ?_) ?_
              · refine st_call1 (by rfl) 15 (.tmp 33) 32 (by rfl) (.slice (some ⟨b, off + p * 32, none⟩) (n - p) (c - p)) e33_3 (hcf _) _ (Qt W3) (HC2.out _ (HQ1.out.trans Q3)) ?_
                intro W4 q4
                have Q4 := Q3.trans q4
                have HA4 := blk_qt HA3 q4
                have HB4 := blk_qt HB3 q4
                refine hK _ _ ?_
                clear hK K
                refine gen_frame fun F4 hA => ?_
                have hF : F4 = F3.put (some 34) (.agg (u8s r2).toArray) := hA
                have hF4 := Lib.hid hF
                have e29_4 : F4.eval (.tmp 29) = Value.slice (some ⟨b, off, none⟩) p c := by rw [hF, ev_other (by decide)]; exact e29_3
                have e33_4 : F4.eval (.tmp 33) = Value.slice (some ⟨b, off + p * 32, none⟩) (n - p) (c - p) := by rw [hF, ev_other (by decide)]; exact e33_3
                have e5_4 : F4.eval (.tmp 5) = (.pointer (some ⟨gB, 0, none⟩)) := by rw [hF, ev_other (by decide)]; exact e5_3
                have e30_4 : F4.eval (.tmp 30) = (.agg (u8s r1).toArray) := by rw [hF, ev_other (by decide)]; exact e30_3
                have e4_4 : F4.eval (.tmp 4) = (.pointer (some ⟨gA, 0, none⟩)) := by rw [hF, ev_other (by decide)]; exact e4_3
                have e34_4 : F4.eval (.tmp 34) = (.agg (u8s r2).toArray) := by rw [hF]; exact ev_same (by rw [z3]; decide)
                have z4 : F4.tmps.size = 41 := by rw [hF, put_size]; exact z3
                clear hF hA
                refine wpAny_ready (rs := [10]) (by kernel_rfl) (by simp) ?_
                refine AllReady.cons (o := { dst := none, op := Go.Op.store 27 (Go.Operand.tmp 4) (Go.Operand.tmp 30), type := 0, pos := "ref.go:164", after := #[{ on := 8, ground := Go.Ground.data }, { on := 3, ground := Go.Ground.data }, { on := 7, ground := Go.Ground.chain }, { on := 0, ground := Go.Ground.phase }, { on := 1, ground := Go.Ground.phase }, { on := 2, ground := Go.Ground.phase }, { on := 3, ground := Go.Ground.phase }, { on := 4, ground := Go.Ground.textOnly Go.Departure.lateStores }, { on := 5, ground := Go.Ground.textOnly Go.Departure.lateStores }, { on := 6, ground := Go.Ground.textOnly Go.Departure.lateStoresUnsure }, { on := 7, ground := Go.Ground.phase }, { on := 8, ground := Go.Ground.phase }, { on := 9, ground := Go.Ground.phase }], guard := none }) rfl (fun K hK => ?_) ?_
                · refine st_store (by rfl) 27 (.tmp 4) (.tmp 30) (by rfl) gA (u8s r1).toArray e4_4 e30_4 27 _ HA4 HS1.out HZ1.out HU1.out ?_
                  intro W5 q5 HA5
                  have Q5 := qt_grown Q4 q5 bA
                  have HB5 := blk_far HB4 q5 (fun e => ne (by rw [e]))
                  refine hK _ _ ?_
                  clear hK K
                  refine gen_frame fun F5 hA => ?_
                  have hF : F5 = F4.put none undef := hA
                  have hF5 := Lib.hid hF
                  have e29_5 : F5.eval (.tmp 29) = Value.slice (some ⟨b, off, none⟩) p c := by rw [hF, ev_none]; exact e29_4
                  have e33_5 : F5.eval (.tmp 33) = Value.slice (some ⟨b, off + p * 32, none⟩) (n - p) (c - p) := by rw [hF, ev_none]; exact e33_4
                  have e5_5 : F5.eval (.tmp 5) = (.pointer (some ⟨gB, 0, none⟩)) := by rw [hF, ev_none]; exact e5_4
                  have e30_5 : F5.eval (.tmp 30) = (.agg (u8s r1).toArray) := by rw [hF, ev_none]; exact e30_4
                  have e4_5 : F5.eval (.tmp 4) = (.pointer (some ⟨gA, 0, none⟩)) := by rw [hF, ev_none]; exact e4_4
                  have e34_5 : F5.eval (.tmp 34) = (.agg (u8s r2).toArray) := by rw [hF, ev_none]; exact e34_4
                  have z5 : F5.tmps.size = 41 := by rw [hF, put_size]; exact z4
                  clear hF hA
                  refine wpAny_ready (rs := [11]) (by kernel_rfl) (by simp) ?_
                  refine AllReady.cons (o := { dst := none, op := Go.Op.store 27 (Go.Operand.tmp 5) (Go.Operand.tmp 34), type := 0, pos := "ref.go:164", after := #[{ on := 9, ground := Go.Ground.data }, { on := 7, ground := Go.Ground.data }, { on := 10, ground := Go.Ground.chain }, { on := 0, ground := Go.Ground.phase }, { on := 1, ground := Go.Ground.phase }, { on := 2, ground := Go.Ground.phase }, { on := 3, ground := Go.Ground.phase }, { on := 4, ground := Go.Ground.phase }, { on := 5, ground := Go.Ground.phase }, { on := 6, ground := Go.Ground.phase }, { on := 7, ground := Go.Ground.phase }, { on := 8, ground := Go.Ground.phase }, { on := 9, ground := Go.Ground.phase }, { on := 10, ground := Go.Ground.phase }], guard := none }) rfl (fun K hK => ?_) ?_
                  · refine st_store (by rfl) 27 (.tmp 5) (.tmp 34) (by rfl) gB (u8s r2).toArray e5_5 e34_5 27 _ HB5 HS2.out HZ2.out HU2.out ?_
                    intro W6 q6 HB6
                    have Q6 := qt_grown Q5 q6 bB
                    have HA6 := blk_far HA5 q6 (fun e => ne (by rw [e]))
                    refine hK _ _ ?_
                    clear hK K
                    refine gen_frame fun F6 hA => ?_
                    have hF : F6 = F5.put none undef := hA
                    have hF6 := Lib.hid hF
                    have e29_6 : F6.eval (.tmp 29) = Value.slice (some ⟨b, off, none⟩) p c := by rw [hF, ev_none]; exact e29_5
                    have e33_6 : F6.eval (.tmp 33) = Value.slice (some ⟨b, off + p * 32, none⟩) (n - p) (c - p) := by rw [hF, ev_none]; exact e33_5
                    have e5_6 : F6.eval (.tmp 5) = (.pointer (some ⟨gB, 0, none⟩)) := by rw [hF, ev_none]; exact e5_5
                    have e30_6 : F6.eval (.tmp 30) = (.agg (u8s r1).toArray) := by rw [hF, ev_none]; exact e30_5
                    have e4_6 : F6.eval (.tmp 4) = (.pointer (some ⟨gA, 0, none⟩)) := by rw [hF, ev_none]; exact e4_5
                    have e34_6 : F6.eval (.tmp 34) = (.agg (u8s r2).toArray) := by rw [hF, ev_none]; exact e34_5
                    have z6 : F6.tmps.size = 41 := by rw [hF, put_size]; exact z5
                    clear hF hA
                    refine wpAny_done (by kernel_rfl) ?_ _
                    rw [hF6.out, hF5.out, hF4.out, hF3.out, hF2.out, hF1.out, hF0.out]
                    go_wp2_with fail
                    go_meet
                    exact ⟨gA, gB, rfl, rfl, HR.out.below Q6, HA6, HB6⟩
                  exact AllReady.nil
                exact AllReady.nil
              exact AllReady.nil
            exact AllReady.nil
          refine AllReady.cons (o := { dst := some 4, op := Go.Op.alloc 27, type := 0, pos := "ref.go:164", after := #[], guard := none }) rfl (fun K hK => ?_) ?_
          · refine st_alloc (by rfl) 27 (by rfl) _ halloc ?_
            intro gA W2 q2 lA HA2
            have Q2 := Q1.trans q2
            have bA : W0.heap.size ≤ gA := Nat.le_trans Q1.size lA
            have HB2 := blk_qt HB1 q2
            have ne : gB ≠ gA := Nat.ne_of_lt (Nat.lt_of_lt_of_le (blk_lt HB1) lA)
            refine hK _ _ ?_
            clear hK K
            refine gen_frame fun F2 hA => ?_
            have hF : F2 = F1.put (some 4) (.pointer (some ⟨gA, 0, none⟩)) := hA
            have hF2 := Lib.hid hF
            have e29_2 : F2.eval (.tmp 29) = Value.slice (some ⟨b, off, none⟩) p c := by rw [hF, ev_other (by decide)]; exact e29_1
            have e33_2 : F2.eval (.tmp 33) = Value.slice (some ⟨b, off + p * 32, none⟩) (n - p) (c - p) := by rw [hF, ev_other (by decide)]; exact e33_1
            have e5_2 : F2.eval (.tmp 5) = (.pointer (some ⟨gB, 0, none⟩)) := by rw [hF, ev_other (by decide)]; exact e5_1
            have e4_2 : F2.eval (.tmp 4) = (.pointer (some ⟨gA, 0, none⟩)) := by rw [hF]; exact ev_same (by rw [z1]; decide)
            have z2 : F2.tmps.size = 41 := by rw [hF, put_size]; exact z1
            clear hF hA
            refine wpAny_ready (rs := [3]) (by kernel_rfl) (by simp) ?_
            refine AllReady.cons (o := { dst := some 30, op := Go.Op.call { callee := Go.Callee.value (Go.Operand.func 15), args := #[Go.Operand.tmp 29], argTypes := #[32] }, type := 27, pos := "ref.go:164", after := #[{ on := 2, ground := Go.Ground.data }], guard := none }) rfl (fun K hK => ?_) ?_
            · refine st_call1 (by rfl) 15 (.tmp 29) 32 (by rfl) (.slice (some ⟨b, off, none⟩) p c) e29_2 (hcf _) _ (Qt W2) (HC1.out _ (HQ1.out.trans Q2)) ?_
              intro W3 q3
              have Q3 := Q2.trans q3
              have HA3 := blk_qt HA2 q3
              have HB3 := blk_qt HB2 q3
              refine hK _ _ ?_
              clear hK K
              refine gen_frame fun F3 hA => ?_
              have hF : F3 = F2.put (some 30) (.agg (u8s r1).toArray) := hA
              have hF3 := Lib.hid hF
              have e29_3 : F3.eval (.tmp 29) = Value.slice (some ⟨b, off, none⟩) p c := by rw [hF, ev_other (by decide)]; exact e29_2
              have e33_3 : F3.eval (.tmp 33) = Value.slice (some ⟨b, off + p * 32, none⟩) (n - p) (c - p) := by rw [hF, ev_other (by decide)]; exact e33_2
              have e5_3 : F3.eval (.tmp 5) = (.pointer (some ⟨gB, 0, none⟩)) := by rw [hF, ev_other (by decide)]; exact e5_2
              have e4_3 : F3.eval (.tmp 4) = (.pointer (some ⟨gA, 0, none⟩)) := by rw [hF, ev_other (by decide)]; exact e4_2
              have e30_3 : F3.eval (.tmp 30) = (.agg (u8s r1).toArray) := by rw [hF]; exact ev_same (by rw [z2]; decide)
              have z3 : F3.tmps.size = 41 := by rw [hF, put_size]; exact z2
              clear hF hA
              refine wpAny_ready (rs := [7]) (by kernel_rfl) (by simp) ?_
              refine AllReady.cons (o := { dst := some 34, op := Go.Op.call { callee := Go.Callee.value (Go.Operand.func 15), args := #[Go.Operand.tmp 33], argTypes := #[32] }, type := 27, pos := "ref.go:164", after := #[{ on := 6, ground := Go.Ground.data }, { on := 3, ground := Go.Ground.chain }], guard := none }) rfl (fun K hK => ?_) ?_
              · refine st_call1 (by rfl) 15 (.tmp 33) 32 (by rfl) (.slice (some ⟨b, off + p * 32, none⟩) (n - p) (c - p)) e33_3 (hcf _) _ (Qt W3) (HC2.out _ (HQ1.out.trans Q3)) ?_
                intro W4 q4
                have Q4 := Q3.trans q4
                have HA4 := blk_qt HA3 q4
                have HB4 := blk_qt HB3 q4
                refine hK _ _ ?_
                clear hK K
                refine gen_frame fun F4 hA => ?_
                have hF : F4 = F3.put (some 34) (.agg (u8s r2).toArray) := hA
                have hF4 := Lib.hid hF
                have e29_4 : F4.eval (.tmp 29) = Value.slice (some ⟨b, off, none⟩) p c := by rw [hF, ev_other (by decide)]; exact e29_3
                have e33_4 : F4.eval (.tmp 33) = Value.slice (some ⟨b, off + p * 32, none⟩) (n - p) (c - p) := by rw [hF, ev_other (by decide)]; exact e33_3
                have e5_4 : F4.eval (.tmp 5) = (.pointer (some ⟨gB, 0, none⟩)) := by rw [hF, ev_other (by decide)]; exact e5_3
                have e4_4 : F4.eval (.tmp 4) = (.pointer (some ⟨gA, 0, none⟩)) := by rw [hF, ev_other (by decide)]; exact e4_3
                have e30_4 : F4.eval (.tmp 30) = (.agg (u8s r1).toArray) := by rw [hF, ev_other (by decide)]; exact e30_3
                have e34_4 : F4.eval (.tmp 34) = (.agg (u8s r2).toArray) := by rw [hF]; exact ev_same (by rw [z3]; decide)
                have z4 : F4.tmps.size = 41 := by rw [hF, put_size]; exact z3
                clear hF hA
                refine wpAny_ready (rs := [10]) (by kernel_rfl) (by simp) ?_
                refine AllReady.cons (o := { dst := none, op := Go.Op.store 27 (Go.Operand.tmp 4) (Go.Operand.tmp 30), type := 0, pos := "ref.go:164", after := #[{ on := 8, ground := Go.Ground.data }, { on := 3, ground := Go.Ground.data }, { on := 7, ground := Go.Ground.chain }, { on := 0, ground := Go.Ground.phase }, { on := 1, ground := Go.Ground.phase }, { on := 2, ground := Go.Ground.phase }, { on := 3, ground := Go.Ground.phase }, { on := 4, ground := Go.Ground.textOnly Go.Departure.lateStores }, { on := 5, ground := Go.Ground.textOnly Go.Departure.lateStores }, { on := 6, ground := Go.Ground.textOnly Go.Departure.lateStoresUnsure }, { on := 7, ground := Go.Ground.phase }, { on := 8, ground := Go.Ground.phase }, { on := 9, ground := Go.Ground.phase }], guard := none }) rfl (fun K hK => ?_) ?_
                · refine st_store (by rfl) 27 (.tmp 4) (.tmp 30) (by rfl) gA (u8s r1).toArray e4_4 e30_4 27 _ HA4 HS1.out HZ1.out HU1.out ?_
                  intro W5 q5 HA5
                  have Q5 := qt_grown Q4 q5 bA
                  have HB5 := blk_far HB4 q5 (fun e => ne (by rw [e]))
                  refine hK _ _ ?_
                  clear hK K
                  refine gen_frame fun F5 hA => ?_
                  have hF : F5 = F4.put none undef := hA
                  have hF5 := Lib.hid hF
                  have e29_5 : F5.eval (.tmp 29) = Value.slice (some ⟨b, off, none⟩) p c := by rw [hF, ev_none]; exact e29_4
                  have e33_5 : F5.eval (.tmp 33) = Value.slice (some ⟨b, off + p * 32, none⟩) (n - p) (c - p) := by rw [hF, ev_none]; exact e33_4
                  have e5_5 : F5.eval (.tmp 5) = (.pointer (some ⟨gB, 0, none⟩)) := by rw [hF, ev_none]; exact e5_4
                  have e4_5 : F5.eval (.tmp 4) = (.pointer (some ⟨gA, 0, none⟩)) := by rw [hF, ev_none]; exact e4_4
                  have e30_5 : F5.eval (.tmp 30) = (.agg (u8s r1).toArray) := by rw [hF, ev_none]; exact e30_4
                  have e34_5 : F5.eval (.tmp 34) = (.agg (u8s r2).toArray) := by rw [hF, ev_none]; exact e34_4
                  have z5 : F5.tmps.size = 41 := by rw [hF, put_size]; exact z4
                  clear hF hA
                  refine wpAny_ready (rs := [11]) (by kernel_rfl) (by simp) ?_
                  refine AllReady.cons (o := { dst := none, op := Go.Op.store 27 (Go.Operand.tmp 5) (Go.Operand.tmp 34), type := 0, pos := "ref.go:164", after := #[{ on := 9, ground := Go.Ground.data }, { on := 7, ground := Go.Ground.data }, { on := 10, ground := Go.Ground.chain }, { on := 0, ground := Go.Ground.phase }, { on := 1, ground := Go.Ground.phase }, { on := 2, ground := Go.Ground.phase }, { on := 3, ground := Go.Ground.phase }, { on := 4, ground := Go.Ground.phase }, { on := 5, ground := Go.Ground.phase }, { on := 6, ground := Go.Ground.phase }, { on := 7, ground := Go.Ground.phase }, { on := 8, ground := Go.Ground.phase }, { on := 9, ground := Go.Ground.phase }, { on := 10, ground := Go.Ground.phase }], guard := none }) rfl (fun K hK => ?_) ?_
                  · refine st_store (by rfl) 27 (.tmp 5) (.tmp 34) (by rfl) gB (u8s r2).toArray e5_5 e34_5 27 _ HB5 HS2.out HZ2.out HU2.out ?_
                    intro W6 q6 HB6
                    have Q6 := qt_grown Q5 q6 bB
                    have HA6 := blk_far HA5 q6 (fun e => ne (by rw [e]))
                    refine hK _ _ ?_
                    clear hK K
                    refine gen_frame fun F6 hA => ?_
                    have hF : F6 = F5.put none undef := hA
                    have hF6 := Lib.hid hF
                    have e29_6 : F6.eval (.tmp 29) = Value.slice (some ⟨b, off, none⟩) p c := by rw [hF, ev_none]; exact e29_5
                    have e33_6 : F6.eval (.tmp 33) = Value.slice (some ⟨b, off + p * 32, none⟩) (n - p) (c - p) := by rw [hF, ev_none]; exact e33_5
                    have e5_6 : F6.eval (.tmp 5) = (.pointer (some ⟨gB, 0, none⟩)) := by rw [hF, ev_none]; exact e5_5
                    have e4_6 : F6.eval (.tmp 4) = (.pointer (some ⟨gA, 0, none⟩)) := by rw [hF, ev_none]; exact e4_5
                    have e30_6 : F6.eval (.tmp 30) = (.agg (u8s r1).toArray) := by rw [hF, ev_none]; exact e30_5
                    have e34_6 : F6.eval (.tmp 34) = (.agg (u8s r2).toArray) := by rw [hF, ev_none]; exact e34_5
                    have z6 : F6.tmps.size = 41 := by rw [hF, put_size]; exact z5
                    clear hF hA
                    refine wpAny_done (by kernel_rfl) ?_ _
                    rw [hF6.out, hF5.out, hF4.out, hF3.out, hF2.out, hF1.out, hF0.out]
                    go_wp2_with fail
                    go_meet
                    exact ⟨gA, gB, rfl, rfl, HR.out.below Q6, HA6, HB6⟩
                  exact AllReady.nil
                exact AllReady.nil
              exact AllReady.nil
            exact AllReady.nil
          exact AllReady.nil
        exact AllReady.nil
      case rest =>
        obtain ⟨gA, gB, rfl, rfl, hO, hA, hB⟩ := hcut
        have HOc := Lib.hid hO
        have HAc := Lib.hid hA
        have HBc := Lib.hid hB
        clear hO hA hB
        obtain ⟨S, hS⟩ : ∃ S, S = root l := ⟨_, rfl⟩
        have hSl : S.length = 32 := by rw [hS]; exact root_len l
        have hr := HROOT.out
        rw [← hS] at hr
        have HSS := Lib.hid hS
        have HRT := Lib.hid hr
        have HI := Lib.hid (sz32 S hSl)
        have HOZ := Lib.hid (sz32z S hSl)
        have H1 := Lib.hid (u8s_one S)
        have hcf2 : ∀ args w, (callFunc 17 args).run Try.prog w = .ok (.enter 17 args) w := cfOneR
        clear hr hS hSl
        go_wp2_with fail
        refine wp_region_any (by kernel_rfl) ?_
        change wpAny _ _ _ _ _ _ _ (World.drew _)
        refine wpAny_take (i := 1) (oi := { dst := some 36, op := Go.Op.slice 27 (Go.Operand.tmp 4) none none none, type := 38, pos := "ref.go:165", after := #[], guard := none }) (v := Value.slice (some ⟨gA, 0, none⟩) 32 32) rfl (by kernel_rfl) (by kernel_rfl) (by kernel_rfl) (fun _ _ _ h => h) (Or.inl ⟨by rfl, fun w => by go_simp⟩) ?_
        refine wpAny_take (i := 3) (oi := { dst := some 38, op := Go.Op.slice 27 (Go.Operand.tmp 5) none none none, type := 38, pos := "ref.go:165", after := #[], guard := none }) (v := Value.slice (some ⟨gB, 0, none⟩) 32 32) rfl (by kernel_rfl) (by kernel_rfl) (by kernel_rfl) (fun _ _ _ h => h) (Or.inl ⟨by rfl, fun w => by go_simp⟩) ?_
        refine gen_frame fun F0 hA => ?_
        have e2_0 : F0.eval (.tmp 2) = Value.pointer (some ⟨w.heap.size, 0, none⟩) := by rw [hA]; simp [Act.put, Act.eval]
        have e36_0 : F0.eval (.tmp 36) = Value.slice (some ⟨gA, 0, none⟩) 32 32 := by rw [hA]; simp [Act.put, Act.eval]
        have e38_0 : F0.eval (.tmp 38) = Value.slice (some ⟨gB, 0, none⟩) 32 32 := by rw [hA]; simp [Act.put, Act.eval]
        have z0 : F0.tmps.size = 41 := by rw [hA]; simp [Act.put]
        have hF0 := Lib.hid hA
        clear hA
        generalize hW : World.drew _ = W0
        have hO2 : Own1 w w.heap.size 27 (u8s (List.replicate 32 0)) W0 := by rw [← hW]; exact HOc.out.drew
        have hA2 : W0.heap[gA]? = some (.cells (u8s r1).toArray 27 (0, 0)) := by rw [← hW]; exact HAc.out
        have hB2 : W0.heap[gB]? = some (.cells (u8s r2).toArray 27 (0, 0)) := by rw [← hW]; exact HBc.out
        have HQ1 := Lib.hid (show Qt w W0 from hO2.bel)
        have hBl := blk_lt hB2
        have hRl := blk_lt hO2.blk
        have ho0 : OQ (W0.alloc (.cells #[.int .u8 2] 5)) W0.heap.size 1 (.slice (some ⟨W0.heap.size, 0, none⟩) 1 1) 1 (u8s [2]) := OQ.newRow (xs := u8s [2]) (Nat.le_refl _)
        have hB1 := blk_qt hB2 ((Qt.refl W0).alloc (.cells #[.int .u8 2] 5))
        have hR1 := blk_qt hO2.blk ((Qt.refl W0).alloc (.cells #[.int .u8 2] 5))
        have sA := Src.ofRd (P := Try.prog) (tx := 38) (e' := 5) (size := 1) (by kernel_rfl) (by have := (rd_blk hA2 HL1.out).al (.cells #[.int .u8 2] 5); rw [HL1.out] at this; exact this) (by rw [u8s_len, HL1.out]) (by decide) (u8s_one1 _)
        have hcof : ∀ v2 W2, OQ W2 W0.heap.size 1 v2 65 ((u8s [2] ++ u8s r1) ++ u8s r2) → Calls Try.prog 17 #[v2] W2 fun e w' => e = .returned (.agg (u8s S).toArray) ∧ Qt W2 w' := fun v2 W2 o2 => by
          rw [HRT.out]
          refine oneR_any _ v2 W2 ?_ (fun x hx => ?_) (by simp [HL1.out, HL2.out])
          · have := Rd.of_OQ o2; rw [← u8s_app, ← u8s_app] at this; simpa [HL1.out, HL2.out] using this
          · simp only [List.mem_append, List.mem_singleton] at hx
            rcases hx with (rfl | hx) | hx
            · decide
            · exact HT1.out x hx
            · exact HT2.out x hx
        have HCOF := Lib.hid hcof
        clear hcof hO2 hA2 hB2 hW
        refine wpAny_ready (rs := [0]) (by kernel_rfl) (by simp) ?_
        refine AllReady.cons (o := { dst := some 35, op := Go.Op.buildSlice 38 1 #[(0, Go.Operand.const (Go.Value.int Go.IntKind.u8 2))], type := 38, pos := "ref.go:165", after := #[], guard := none }) rfl (fun K hK => ?_) ?_
        · refine st_run (by rfl) (.slice (some ⟨W0.heap.size, 0, none⟩) 1 1) (W0.alloc (.cells #[.int .u8 2] 5)) (by go_simp) ?_
          refine hK _ _ ?_
          clear hK K
          refine gen_frame fun F1 hA => ?_
          have hF : F1 = F0.put (some 35) (.slice (some ⟨W0.heap.size, 0, none⟩) 1 1) := hA
          have hF1 := Lib.hid hF
          have e2_1 : F1.eval (.tmp 2) = Value.pointer (some ⟨w.heap.size, 0, none⟩) := by rw [hF, ev_other (by decide)]; exact e2_0
          have e36_1 : F1.eval (.tmp 36) = Value.slice (some ⟨gA, 0, none⟩) 32 32 := by rw [hF, ev_other (by decide)]; exact e36_0
          have e38_1 : F1.eval (.tmp 38) = Value.slice (some ⟨gB, 0, none⟩) 32 32 := by rw [hF, ev_other (by decide)]; exact e38_0
          have e35_1 : F1.eval (.tmp 35) = (.slice (some ⟨W0.heap.size, 0, none⟩) 1 1) := by rw [hF]; exact ev_same (by rw [z0]; decide)
          have z1 : F1.tmps.size = 41 := by rw [hF, put_size]; exact z0
          clear hF hA
          refine wpAny_ready (rs := [2]) (by kernel_rfl) (by simp) ?_
          refine AllReady.cons (o := { dst := some 37, op := Go.Op.call { callee := Go.Callee.builtin Go.Builtin.append, args := #[Go.Operand.tmp 35, Go.Operand.tmp 36], argTypes := #[38, 38] }, type := 38, pos := "ref.go:165", after := #[{ on := 0, ground := Go.Ground.data }, { on := 1, ground := Go.Ground.data }], guard := none }) rfl (fun K hK => ?_) ?_
          · refine st_appQ (by rfl) (.tmp 35) (.tmp 36) 38 38 (by rfl) W0.heap.size 5 i0 (.int .u8 0) 1 1 (by kernel_rfl) HJ0.out HY0.out HY1.out HY2.out rfl (.slice (some ⟨W0.heap.size, 0, none⟩) 1 1) 1 (u8s [2]) e35_1 ho0 (.slice (some ⟨gA, 0, none⟩) 32 32) 32 (u8s r1) e36_1 sA (by unfold maxLen; omega) (by omega) (by simp) ?_
            intro v1 W1 o1 q1 x1
            have hb1 := blk_app hB1 ho0 q1 hBl
            have hr1 := blk_app hR1 ho0 q1 hRl
            have bq1 : Qt W0 W1 := below_app (hb := (Below.refl _ W0).alloc (Nat.le_refl _) _) ho0 q1
            have q1s : W0.heap.size ≤ W1.heap.size := bq1.size
            refine hK _ _ ?_
            clear hK K
            refine gen_frame fun F2 hA => ?_
            have hF : F2 = F1.put (some 37) v1 := hA
            have hF2 := Lib.hid hF
            have e2_2 : F2.eval (.tmp 2) = Value.pointer (some ⟨w.heap.size, 0, none⟩) := by rw [hF, ev_other (by decide)]; exact e2_1
            have e36_2 : F2.eval (.tmp 36) = Value.slice (some ⟨gA, 0, none⟩) 32 32 := by rw [hF, ev_other (by decide)]; exact e36_1
            have e38_2 : F2.eval (.tmp 38) = Value.slice (some ⟨gB, 0, none⟩) 32 32 := by rw [hF, ev_other (by decide)]; exact e38_1
            have e35_2 : F2.eval (.tmp 35) = (.slice (some ⟨W0.heap.size, 0, none⟩) 1 1) := by rw [hF, ev_other (by decide)]; exact e35_1
            have e37_2 : F2.eval (.tmp 37) = v1 := by rw [hF]; exact ev_same (by rw [z1]; decide)
            have z2 : F2.tmps.size = 41 := by rw [hF, put_size]; exact z1
            clear hF hA
            refine wpAny_ready (rs := [4]) (by kernel_rfl) (by simp) ?_
            refine AllReady.cons (o := { dst := some 39, op := Go.Op.call { callee := Go.Callee.builtin Go.Builtin.append, args := #[Go.Operand.tmp 37, Go.Operand.tmp 38], argTypes := #[38, 38] }, type := 38, pos := "ref.go:165", after := #[{ on := 2, ground := Go.Ground.data }, { on := 3, ground := Go.Ground.data }, { on := 2, ground := Go.Ground.chain }], guard := none }) rfl (fun K hK => ?_) ?_
            · have sB := Src.ofRd (P := Try.prog) (tx := 38) (e' := 5) (size := 1) (by kernel_rfl) (by have := rd_blk hb1 HL2.out; rw [HL2.out] at this; exact this) (by rw [u8s_len, HL2.out]) (by decide) (u8s_one1 _)
              refine st_appQ (by rfl) (.tmp 37) (.tmp 38) 38 38 (by rfl) W0.heap.size 5 i0 (.int .u8 0) 1 1 (by kernel_rfl) HJ0.out HY0.out HY1.out HY2.out rfl (v1) 33 (u8s [2] ++ u8s r1) e37_2 o1 (.slice (some ⟨gB, 0, none⟩) 32 32) 32 (u8s r2) e38_2 sB (by unfold maxLen; omega) (by omega) (by exact q1s) ?_
              intro v2 W2 o2 q2 x2
              have hr2 := blk_app hr1 o1 q2 hRl
              have bq2 : Qt W0 W2 := below_app (hb := bq1) o1 q2
              refine hK _ _ ?_
              clear hK K
              refine gen_frame fun F3 hA => ?_
              have hF : F3 = F2.put (some 39) v2 := hA
              have hF3 := Lib.hid hF
              have e2_3 : F3.eval (.tmp 2) = Value.pointer (some ⟨w.heap.size, 0, none⟩) := by rw [hF, ev_other (by decide)]; exact e2_2
              have e36_3 : F3.eval (.tmp 36) = Value.slice (some ⟨gA, 0, none⟩) 32 32 := by rw [hF, ev_other (by decide)]; exact e36_2
              have e38_3 : F3.eval (.tmp 38) = Value.slice (some ⟨gB, 0, none⟩) 32 32 := by rw [hF, ev_other (by decide)]; exact e38_2
              have e35_3 : F3.eval (.tmp 35) = (.slice (some ⟨W0.heap.size, 0, none⟩) 1 1) := by rw [hF, ev_other (by decide)]; exact e35_2
              have e37_3 : F3.eval (.tmp 37) = v1 := by rw [hF, ev_other (by decide)]; exact e37_2
              have e39_3 : F3.eval (.tmp 39) = v2 := by rw [hF]; exact ev_same (by rw [z2]; decide)
              have z3 : F3.tmps.size = 41 := by rw [hF, put_size]; exact z2
              clear hF hA
              refine wpAny_ready (rs := [5]) (by kernel_rfl) (by simp) ?_
              refine AllReady.cons (o := { dst := some 40, op := Go.Op.call { callee := Go.Callee.value (Go.Operand.func 17), args := #[Go.Operand.tmp 39], argTypes := #[38] }, type := 27, pos := "ref.go:165", after := #[{ on := 4, ground := Go.Ground.data }, { on := 4, ground := Go.Ground.chain }], guard := none }) rfl (fun K hK => ?_) ?_
              · refine st_call1 (by rfl) 17 (.tmp 39) 38 (by rfl) v2 e39_3 (hcf2 _) (.agg (u8s S).toArray) (Qt W2) (HCOF.out v2 W2 o2) ?_
                intro W3 q3
                have hr3 := blk_qt hr2 q3
                have bq3 := HQ1.out.trans (bq2.trans q3)
                refine hK _ _ ?_
                clear hK K
                refine gen_frame fun F4 hA => ?_
                have hF : F4 = F3.put (some 40) (.agg (u8s S).toArray) := hA
                have hF4 := Lib.hid hF
                have e2_4 : F4.eval (.tmp 2) = Value.pointer (some ⟨w.heap.size, 0, none⟩) := by rw [hF, ev_other (by decide)]; exact e2_3
                have e36_4 : F4.eval (.tmp 36) = Value.slice (some ⟨gA, 0, none⟩) 32 32 := by rw [hF, ev_other (by decide)]; exact e36_3
                have e38_4 : F4.eval (.tmp 38) = Value.slice (some ⟨gB, 0, none⟩) 32 32 := by rw [hF, ev_other (by decide)]; exact e38_3
                have e35_4 : F4.eval (.tmp 35) = (.slice (some ⟨W0.heap.size, 0, none⟩) 1 1) := by rw [hF, ev_other (by decide)]; exact e35_3
                have e37_4 : F4.eval (.tmp 37) = v1 := by rw [hF, ev_other (by decide)]; exact e37_3
                have e39_4 : F4.eval (.tmp 39) = v2 := by rw [hF, ev_other (by decide)]; exact e39_3
                have e40_4 : F4.eval (.tmp 40) = (.agg (u8s S).toArray) := by rw [hF]; exact ev_same (by rw [z3]; decide)
                have z4 : F4.tmps.size = 41 := by rw [hF, put_size]; exact z3
                clear hF hA
                refine wpAny_ready (rs := [6]) (by kernel_rfl) (by simp) ?_
                refine AllReady.cons (o := { dst := none, op := Go.Op.store 27 (Go.Operand.tmp 2) (Go.Operand.tmp 40), type := 0, pos := "ref.go:165", after := #[{ on := 5, ground := Go.Ground.data }, { on := 5, ground := Go.Ground.chain }, { on := 0, ground := Go.Ground.phase }, { on := 1, ground := Go.Ground.phase }, { on := 2, ground := Go.Ground.phase }, { on := 3, ground := Go.Ground.phase }, { on := 4, ground := Go.Ground.phase }, { on := 5, ground := Go.Ground.phase }], guard := none }) rfl (fun K hK => ?_) ?_
                · refine st_store (by rfl) 27 (.tmp 2) (.tmp 40) (by rfl) w.heap.size (u8s S).toArray e2_4 e40_4 27 _ hr3 HI.out HOZ.out H1.out ?_
                  intro W4 q4 HR2
                  have Q2 := qt_grown bq3 q4 (Nat.le_refl _)
                  refine hK _ _ ?_
                  clear hK K
                  refine gen_frame fun F5 hA => ?_
                  have hF : F5 = F4.put none undef := hA
                  have hF5 := Lib.hid hF
                  have e2_5 : F5.eval (.tmp 2) = Value.pointer (some ⟨w.heap.size, 0, none⟩) := by rw [hF, ev_none]; exact e2_4
                  have e36_5 : F5.eval (.tmp 36) = Value.slice (some ⟨gA, 0, none⟩) 32 32 := by rw [hF, ev_none]; exact e36_4
                  have e38_5 : F5.eval (.tmp 38) = Value.slice (some ⟨gB, 0, none⟩) 32 32 := by rw [hF, ev_none]; exact e38_4
                  have e35_5 : F5.eval (.tmp 35) = (.slice (some ⟨W0.heap.size, 0, none⟩) 1 1) := by rw [hF, ev_none]; exact e35_4
                  have e37_5 : F5.eval (.tmp 37) = v1 := by rw [hF, ev_none]; exact e37_4
                  have e39_5 : F5.eval (.tmp 39) = v2 := by rw [hF, ev_none]; exact e39_4
                  have e40_5 : F5.eval (.tmp 40) = (.agg (u8s S).toArray) := by rw [hF, ev_none]; exact e40_4
                  have z5 : F5.tmps.size = 41 := by rw [hF, put_size]; exact z4
                  clear hF hA
                  refine wpAny_done (by kernel_rfl) ?_ _
                  rw [hF5.out, hF4.out, hF3.out, hF2.out, hF1.out, hF0.out]
                  go_wp2_with fail
                  exact bodyPost_ret (v := .agg (u8s S).toArray) (results_cell_row rfl _ _ w.heap.size _ _ _ (.array 32 5) rfl HR2 (by kernel_rfl) rfl HI.out) rfl ⟨by rw [HSS.out], Q2⟩
                exact AllReady.nil
              exact AllReady.nil
            exact AllReady.nil
          exact AllReady.nil
        exact AllReady.nil
end Go.Proofs.Ytjpimfbkdighfaa
