import Derived.Test.YtjpimfbkdighfaaSI
import Derived.Test.YtjpimfbkdighfaaR
namespace Go.Proofs.Ytjpimfbkdighfaa
open Go.RowKit

theorem len_any (n k : Nat) (x : Int) (hx : x = n) (h0 : 0 < n) (hn : n < 4294967296) (hk : k = Nat.log2 n) (w : World) : Calls Try.prog 30 #[.int .u64 x] w fun e w' => e = .returned (.int .i64 ((k : Int) + 1)) ∧ w = w' := by
  subst hx
  refine (Try.bits_Len (n : Int) w (by omega) (by omega)).mono ?_
  rintro e w' ⟨rfl, rfl⟩
  refine ⟨?_, rfl⟩
  rw [Int.toNat_natCast, bitLen_log2 h0 (by omega), hk]
  rfl

theorem flat_cut (l : List (List Nat)) (h : ∀ x ∈ l, x.length = 32) : ∀ q, q ≤ l.length → (l.take q).flatten = l.flatten.take (q * 32) ∧ (l.drop q).flatten = l.flatten.drop (q * 32) := by
  intro q hq
  have hlen : (l.take q).flatten.length = q * 32 := by
    have : ∀ (l : List (List Nat)), (∀ x ∈ l, x.length = 32) → l.flatten.length = l.length * 32 := by
      intro l
      induction l with
      | nil => intro _; rfl
      | cons a l ih => intro h; rw [List.flatten_cons, List.length_append, ih (fun x hx => h x (by simp [hx])), h a (by simp), List.length_cons]; omega
    rw [this _ (fun x hx => h x (List.mem_of_mem_take hx)), List.length_take, Nat.min_eq_left hq]
  have e : l.flatten = (l.take q).flatten ++ (l.drop q).flatten := by rw [← List.flatten_append, List.take_append_drop]
  constructor
  · have h1 : ((l.take q).flatten ++ (l.drop q).flatten).take (q * 32) = (l.take q).flatten := by rw [List.take_append_of_le_length (by omega), List.take_of_length_le (by omega)]
    rw [← e] at h1; exact h1.symm
  · have h1 : ((l.take q).flatten ++ (l.drop q).flatten).drop (q * 32) = (l.drop q).flatten := by rw [List.drop_append_of_le_length (by omega), List.drop_of_length_le (by omega), List.nil_append]
    rw [← e] at h1; exact h1.symm

theorem allocHash (w : World) : (Instr.alloc 27 true (.tuple #[])).run Try.prog w = .ok (.pointer (some ⟨w.heap.size, 0, none⟩)) (w.alloc (.cells (u8s (List.replicate 32 0)).toArray 27 (0, 0))) := by
  go_simp
  rfl
theorem rd_blk {w : World} {g : Nat} {r : List Nat} {t : TypeId} {fr : Nat × Nat} (h : w.heap[g]? = some (.cells (u8s r).toArray t fr)) (hr : r.length = 32) : Rd w (.slice (some ⟨g, 0, none⟩) 32 32) r.length (u8s r) := by
  rw [hr]
  exact ⟨_, _, rfl, Nat.le_refl _, .inr ⟨_, _, rfl, fun j u hu => by rw [Nat.zero_add, cell_blk h]; exact hu⟩⟩
theorem cfRoot (args : Array Value) (w : World) : (callFunc 14 args).run Try.prog w = .ok (.enter 14 args) w := by kernel_rfl
theorem cfOf (args : Array Value) (w : World) : (callFunc 10 args).run Try.prog w = .ok (.enter 10 args) w := by kernel_rfl

set_option maxRecDepth 100000 in
set_option maxHeartbeats 4000000 in
theorem rootStep (l : List (List Nat)) (v : Value) (w : World) (hl2 : 2 ≤ l.length) (hl : l.length ≤ 2000) (hv : Hs w v l)
    (ih : ∀ l' v' w', l'.length < l.length → Hs w' v' l' → Calls Try.prog 14 #[v'] w' fun e w'' => e = .returned (.agg (u8s (root l')).toArray) ∧ Qt w' w'') :
    Calls Try.prog 14 #[v] w fun e w' => e = .returned (.agg (u8s (root l)).toArray) ∧ Qt w w' := by
  obtain ⟨n, hn⟩ : ∃ n, n = l.length := ⟨_, rfl⟩
  obtain ⟨k, hk⟩ : ∃ k, k = Nat.log2 (n - 1) := ⟨_, rfl⟩
  have hk32 : k < 32 := by rw [hk]; exact log2_lt (by omega)
  have hlen := fun x hx w => len_any (n - 1) k x hx (by omega) (by omega) hk w
  obtain ⟨b, off, c, rfl, hc⟩ : ∃ b off c, v = .slice (some ⟨b, off, none⟩) n c ∧ n ≤ c := by
    obtain ⟨a, c, rfl, hc, h0 | ⟨b, off, rfl, hx⟩⟩ := hv.rd
    · have h1 := hv.len
      cases l with
      | nil => simp at hl2
      | cons a l => 
        have := h1 a (by simp)
        exact absurd (congrArg List.length h0) (by simp [u8s, this])
    · exact ⟨b, off, c, by rw [hn], by omega⟩
  obtain ⟨m, hm⟩ : ∃ m, m = half l.length := ⟨_, rfl⟩
  have hm1 : 0 < m := by rw [hm]; exact half_pos _
  have hm2 : m < n := by rw [hm, hn]; exact half_lt (by omega)
  have hw64 : wrap64 (2 ^ k) = (m : Int) := by
    have e : ((2 : Int) ^ k) = (m : Int) := by rw [hm, half, ← hn, ← hk]; simp
    rw [e]
    unfold wrap64
    omega
  have hw1 := ih (l.take m) (.slice (some ⟨b, off, none⟩) m c)
  have hw2 := ih (l.drop m) (.slice (some ⟨b, off + m * 32, none⟩) (n - m) (c - m))
  have hcell : ∀ j u, (u8s l.flatten)[j]? = some u → w.cell? ⟨b, off + j, none⟩ = some u := by
    obtain ⟨a', c', hv', _, h0 | ⟨b', off', hb', hx⟩⟩ := hv.rd
    · rw [h0]; intro j u hu; simp at hu
    · cases hv'; cases hb'; exact hx
  have hflat : ∀ q, q ≤ l.length → (l.take q).flatten = l.flatten.take (q * 32) ∧ (l.drop q).flatten = l.flatten.drop (q * 32) := fun q hq => flat_cut l hv.len q hq
  have hs1 : Hs w (.slice (some ⟨b, off, none⟩) m c) (l.take m) := by
    refine ⟨⟨_, _, by rw [List.length_take, Nat.min_eq_left (by omega)], by rw [List.length_take]; omega, .inr ⟨b, off, rfl, fun j u hu => hcell j u ?_⟩⟩, fun h hh => hv.len h (List.mem_of_mem_take hh), fun h hh => hv.lt h (List.mem_of_mem_take hh)⟩
    rw [(hflat m (by omega)).1, u8s, List.map_take, List.getElem?_take] at hu
    split at hu
    · exact hu
    · cases hu
  have hs2 : Hs w (.slice (some ⟨b, off + m * 32, none⟩) (n - m) (c - m)) (l.drop m) := by
    refine ⟨⟨_, _, by rw [List.length_drop, hn], by rw [List.length_drop]; omega, .inr ⟨b, off + m * 32, rfl, fun j u hu => ?_⟩⟩, fun h hh => hv.len h (List.mem_of_mem_drop hh), fun h hh => hv.lt h (List.mem_of_mem_drop hh)⟩
    rw [(hflat m (by omega)).2, u8s, List.map_drop, List.getElem?_drop] at hu
    rw [Nat.add_assoc]; exact hcell _ u hu
  have hc1 : ∀ w1, Qt w w1 → Calls Try.prog 14 #[.slice (some ⟨b, off, none⟩) m c] w1 fun e w'' => e = .returned (.agg (u8s (root (l.take m))).toArray) ∧ Qt w1 w'' := fun w1 q => hw1 w1 (by rw [List.length_take]; omega) (hs1.below q)
  have hc2 : ∀ w1, Qt w w1 → Calls Try.prog 14 #[.slice (some ⟨b, off + m * 32, none⟩) (n - m) (c - m)] w1 fun e w'' => e = .returned (.agg (u8s (root (l.drop m))).toArray) ∧ Qt w1 w'' := fun w1 q => hw2 w1 (by rw [List.length_drop]; omega) (hs2.below q)
  have hroot : root l = sha ([2] ++ root (l.take m) ++ root (l.drop m)) := by rw [hm]; exact root_more (by omega)
  have hl1 := root_len (l.take m)
  have hl2' := root_len (l.drop m)
  have ht1 := root_lt (l.take m)
  have ht2 := root_lt (l.drop m)
  generalize root (l.take m) = r1 at *
  generalize root (l.drop m) = r2 at *
  have HROOT := Lib.hid hroot
  have HL1 := Lib.hid hl1
  have HL2 := Lib.hid hl2'
  have HT1 := Lib.hid ht1
  have HT2 := Lib.hid ht2
  have HC1 := Lib.hid hc1
  have HC2 := Lib.hid hc2
  clear hw1 hw2 hcell hflat hs1 hs2 hc1 hc2 hroot hl1 hl2' ht1 ht2 hm ih hv
  have HL := Lib.hid hlen
  have HK := Lib.hid hk
  have HN := Lib.hid hn
  have hn2 : 2 ≤ n := by omega
  have hn3 : n ≤ 2000 := by omega
  clear hlen hk hn hl2 hl
  have hq : ((n : Int) == 0) = false := by rw [beq_eq_false_iff_ne]; omega
  have hq2 : ((n : Int) == 1) = false := by rw [beq_eq_false_iff_ne]; omega
  go_enter Try.func14, Try.ntmps14
  go_wp2_with (go_at_call 30; refine (HL.out _ (by omega) _).mono ?_; rintro e w2 ⟨rfl, rfl⟩)
  have i1 : (0 : Int) ≤ (m : Int) := by omega
  have i2 : (m : Int) ≤ (n : Int) := by omega
  have i3 : (m : Int) ≤ (c : Int) := by omega
  have i4 : ¬ c = m := by omega
  have hcf : ∀ args w, (callFunc 14 args).run Try.prog w = .ok (.enter 14 args) w := cfRoot
  have halloc : ∀ w, (Instr.alloc 27 true (.tuple #[])).run Try.prog w = .ok (.pointer (some ⟨w.heap.size, 0, none⟩)) (w.alloc (.cells (u8s (List.replicate 32 0)).toArray 27 (0, 0))) := allocHash
  have HS1 := Lib.hid (sz32 r1 HL1.out)
  have HS2 := Lib.hid (sz32 r2 HL2.out)
  have HZ1 := Lib.hid (sz32z r1 HL1.out)
  have HZ2 := Lib.hid (sz32z r2 HL2.out)
  have HU1 := Lib.hid (u8s_one r1)
  have HU2 := Lib.hid (u8s_one r2)
  simp only [hw64]
  clear hw64
  go_cut [4, 5] (fun x y wx => ∃ gA gB, x = .pointer (some ⟨gA, 0, none⟩) ∧ y = .pointer (some ⟨gB, 0, none⟩) ∧ Own1 w w.heap.size 27 (u8s (List.replicate 32 0)) wx ∧ wx.heap[gA]? = some (.cells (u8s r1).toArray 27 (0, 0)) ∧ wx.heap[gB]? = some (.cells (u8s r2).toArray 27 (0, 0)))
  case first =>
    refine wp_region_any (by kernel_rfl) ?_
    change wpAny _ _ _ _ _ _ _ (World.drew _)
    refine wpAny_take (i := 0) (oi := { dst := some 28, op := Go.Op.move (Go.Operand.tmp 0), type := 32, pos := "sum.go:124", after := #[], guard := none }) (v := Value.slice (some ⟨b, off, none⟩) n c) rfl (by kernel_rfl) (by kernel_rfl) (by kernel_rfl) (fun _ _ _ h => h) (Or.inl ⟨by rfl, fun w => by go_simp⟩) ?_
    refine wpAny_take (i := 1) (oi := { dst := some 29, op := Go.Op.move (Go.Operand.tmp 3), type := 3, pos := "sum.go:124", after := #[], guard := none }) (v := Value.int .i64 (m : Int)) rfl (by kernel_rfl) (by kernel_rfl) (by kernel_rfl) (fun _ _ _ h => h) (Or.inl ⟨by rfl, fun w => by go_simp⟩) ?_
    refine wpAny_take (i := 2) (oi := { dst := some 30, op := Go.Op.slice 32 (Go.Operand.tmp 28) none (some (Go.Operand.tmp 29)) none, type := 32, pos := "sum.go:124", after := #[{ on := 0, ground := Go.Ground.data }, { on := 1, ground := Go.Ground.data }], guard := none }) (v := Value.slice (some ⟨b, off, none⟩) m c) rfl (by kernel_rfl) (by kernel_rfl) (by kernel_rfl) (fun _ _ _ h => h) (Or.inl ⟨by rfl, fun w => by go_simp⟩) ?_
    refine wpAny_take (i := 4) (oi := { dst := some 32, op := Go.Op.move (Go.Operand.tmp 0), type := 32, pos := "sum.go:124", after := #[], guard := none }) (v := Value.slice (some ⟨b, off, none⟩) n c) rfl (by kernel_rfl) (by kernel_rfl) (by kernel_rfl) (fun _ _ _ h => h) (Or.inl ⟨by rfl, fun w => by go_simp⟩) ?_
    refine wpAny_take (i := 5) (oi := { dst := some 33, op := Go.Op.move (Go.Operand.tmp 3), type := 3, pos := "sum.go:124", after := #[], guard := none }) (v := Value.int .i64 (m : Int)) rfl (by kernel_rfl) (by kernel_rfl) (by kernel_rfl) (fun _ _ _ h => h) (Or.inl ⟨by rfl, fun w => by go_simp⟩) ?_
    refine wpAny_take (i := 6) (oi := { dst := some 34, op := Go.Op.slice 32 (Go.Operand.tmp 32) (some (Go.Operand.tmp 33)) none none, type := 32, pos := "sum.go:124", after := #[{ on := 4, ground := Go.Ground.data }, { on := 5, ground := Go.Ground.data }], guard := none }) (v := Value.slice (some ⟨b, off + m * 32, none⟩) (n - m) (c - m)) rfl (by kernel_rfl) (by kernel_rfl) (by kernel_rfl) (fun _ _ _ h => h) (Or.inl ⟨by rfl, fun w => by go_simp⟩) ?_
    refine gen_frame fun F0 hA => ?_
    have e30_0 : F0.eval (.tmp 30) = Value.slice (some ⟨b, off, none⟩) m c := by rw [hA]; simp [Act.put, Act.eval]
    have e34_0 : F0.eval (.tmp 34) = Value.slice (some ⟨b, off + m * 32, none⟩) (n - m) (c - m) := by rw [hA]; simp [Act.put, Act.eval]
    have z0 : F0.tmps.size = 41 := by rw [hA]; simp [Act.put]
    have hF0 := Lib.hid hA
    clear hA
    generalize hW : World.drew _ = W0
    have HR := Lib.hid (show Own1 w w.heap.size 27 (u8s (List.replicate 32 0)) W0 from by rw [← hW]; exact (Own1.res w).drew)
    have HQ1 := Lib.hid (show Qt w W0 from HR.out.bel)
    have Q0 := Qt.refl W0
    clear hW
    refine wpAny_ready (rs := [3, 8, 9]) (by kernel_rfl) (by simp) ?_
    refine AllReady.cons (o := { dst := some 31, op := Go.Op.call { callee := Go.Callee.value (Go.Operand.func 14), args := #[Go.Operand.tmp 30], argTypes := #[32] }, type := 27, pos := "sum.go:124", after := #[{ on := 2, ground := Go.Ground.data }], guard := none }) rfl (fun K hK => ?_) ?_
    · refine st_call1 (by rfl) 14 (.tmp 30) 32 (by rfl) (.slice (some ⟨b, off, none⟩) m c) e30_0 (hcf _) _ (Qt W0) (HC1.out _ (HQ1.out.trans Q0)) ?_
      intro W1 q1
      have Q1 := Q0.trans q1
      refine hK _ _ ?_
      clear hK K
      refine gen_frame fun F1 hA => ?_
      have hF : F1 = F0.put (some 31) (.agg (u8s r1).toArray) := hA
      have hF1 := Lib.hid hF
      have e30_1 : F1.eval (.tmp 30) = Value.slice (some ⟨b, off, none⟩) m c := by rw [hF, ev_other (by decide)]; exact e30_0
      have e34_1 : F1.eval (.tmp 34) = Value.slice (some ⟨b, off + m * 32, none⟩) (n - m) (c - m) := by rw [hF, ev_other (by decide)]; exact e34_0
      have e31_1 : F1.eval (.tmp 31) = (.agg (u8s r1).toArray) := by rw [hF]; exact ev_same (by rw [z0]; decide)
      have z1 : F1.tmps.size = 41 := by rw [hF, put_size]; exact z0
      clear hF hA
      refine wpAny_ready (rs := [7, 8, 9]) (by kernel_rfl) (by simp) ?_
      refine AllReady.cons (o := { dst := some 35, op := Go.Op.call { callee := Go.Callee.value (Go.Operand.func 14), args := #[Go.Operand.tmp 34], argTypes := #[32] }, type := 27, pos := "sum.go:124", after := #[{ on := 6, ground := Go.Ground.data }, { on := 3, ground := Go.Ground.chain }], guard := none }) rfl (fun K hK => ?_) ?_
      · refine st_call1 (by rfl) 14 (.tmp 34) 32 (by rfl) (.slice (some ⟨b, off + m * 32, none⟩) (n - m) (c - m)) e34_1 (hcf _) _ (Qt W1) (HC2.out _ (HQ1.out.trans Q1)) ?_
        intro W2 q2
        have Q2 := Q1.trans q2
        refine hK _ _ ?_
        clear hK K
        refine gen_frame fun F2 hA => ?_
        have hF : F2 = F1.put (some 35) (.agg (u8s r2).toArray) := hA
        have hF2 := Lib.hid hF
        have e30_2 : F2.eval (.tmp 30) = Value.slice (some ⟨b, off, none⟩) m c := by rw [hF, ev_other (by decide)]; exact e30_1
        have e34_2 : F2.eval (.tmp 34) = Value.slice (some ⟨b, off + m * 32, none⟩) (n - m) (c - m) := by rw [hF, ev_other (by decide)]; exact e34_1
        have e31_2 : F2.eval (.tmp 31) = (.agg (u8s r1).toArray) := by rw [hF, ev_other (by decide)]; exact e31_1
        have e35_2 : F2.eval (.tmp 35) = (.agg (u8s r2).toArray) := by rw [hF]; exact ev_same (by rw [z1]; decide)
        have z2 : F2.tmps.size = 41 := by rw [hF, put_size]; exact z1
        clear hF hA
        refine wpAny_ready (rs := [8, 9]) (by kernel_rfl) (by simp) ?_
        refine AllReady.cons (o := { dst := some 4, op := Go.Op.alloc 27, type := 0, pos := "sum.go:124", after := #[], guard := none }) rfl (fun K hK => ?_) ?_
        · refine st_alloc (by rfl) 27 (by rfl) _ halloc ?_
          intro gA W3 q3 lA HA3
          have Q3 := Q2.trans q3
          have bA : W0.heap.size ≤ gA := Nat.le_trans Q2.size lA
          refine hK _ _ ?_
          clear hK K
          refine gen_frame fun F3 hA => ?_
          have hF : F3 = F2.put (some 4) (.pointer (some ⟨gA, 0, none⟩)) := hA
          have hF3 := Lib.hid hF
          have e30_3 : F3.eval (.tmp 30) = Value.slice (some ⟨b, off, none⟩) m c := by rw [hF, ev_other (by decide)]; exact e30_2
          have e34_3 : F3.eval (.tmp 34) = Value.slice (some ⟨b, off + m * 32, none⟩) (n - m) (c - m) := by rw [hF, ev_other (by decide)]; exact e34_2
          have e31_3 : F3.eval (.tmp 31) = (.agg (u8s r1).toArray) := by rw [hF, ev_other (by decide)]; exact e31_2
          have e35_3 : F3.eval (.tmp 35) = (.agg (u8s r2).toArray) := by rw [hF, ev_other (by decide)]; exact e35_2
          have e4_3 : F3.eval (.tmp 4) = (.pointer (some ⟨gA, 0, none⟩)) := by rw [hF]; exact ev_same (by rw [z2]; decide)
          have z3 : F3.tmps.size = 41 := by rw [hF, put_size]; exact z2
          clear hF hA
          refine wpAny_ready (rs := [9]) (by kernel_rfl) (by simp) ?_
          refine AllReady.cons (o := { dst := some 5, op := Go.Op.alloc 27, type := 0, pos := "sum.go:124", after := #[], guard := none }) rfl (fun K hK => ?_) ?_
          · refine st_alloc (by rfl) 27 (by rfl) _ halloc ?_
            intro gB W4 q4 lB HB4
            have Q4 := Q3.trans q4
            have bB : W0.heap.size ≤ gB := Nat.le_trans Q3.size lB
            have HA4 := blk_qt HA3 q4
            have ne : gA ≠ gB := Nat.ne_of_lt (Nat.lt_of_lt_of_le (blk_lt HA3) lB)
            refine hK _ _ ?_
            clear hK K
            refine gen_frame fun F4 hA => ?_
            have hF : F4 = F3.put (some 5) (.pointer (some ⟨gB, 0, none⟩)) := hA
            have hF4 := Lib.hid hF
            have e30_4 : F4.eval (.tmp 30) = Value.slice (some ⟨b, off, none⟩) m c := by rw [hF, ev_other (by decide)]; exact e30_3
            have e34_4 : F4.eval (.tmp 34) = Value.slice (some ⟨b, off + m * 32, none⟩) (n - m) (c - m) := by rw [hF, ev_other (by decide)]; exact e34_3
            have e31_4 : F4.eval (.tmp 31) = (.agg (u8s r1).toArray) := by rw [hF, ev_other (by decide)]; exact e31_3
            have e35_4 : F4.eval (.tmp 35) = (.agg (u8s r2).toArray) := by rw [hF, ev_other (by decide)]; exact e35_3
            have e4_4 : F4.eval (.tmp 4) = (.pointer (some ⟨gA, 0, none⟩)) := by rw [hF, ev_other (by decide)]; exact e4_3
            have e5_4 : F4.eval (.tmp 5) = (.pointer (some ⟨gB, 0, none⟩)) := by rw [hF]; exact ev_same (by rw [z3]; decide)
            have z4 : F4.tmps.size = 41 := by rw [hF, put_size]; exact z3
            clear hF hA
            refine wpAny_ready (rs := [10]) (by kernel_rfl) (by simp) ?_
            refine AllReady.cons (o := { dst := none, op := Go.Op.store 27 (Go.Operand.tmp 4) (Go.Operand.tmp 31), type := 0, pos := "sum.go:124", after := #[{ on := 8, ground := Go.Ground.data }, { on := 3, ground := Go.Ground.data }, { on := 7, ground := Go.Ground.chain }, { on := 0, ground := Go.Ground.phase }, { on := 1, ground := Go.Ground.phase }, { on := 2, ground := Go.Ground.phase }, { on := 3, ground := Go.Ground.phase }, { on := 4, ground := Go.Ground.textOnly Go.Departure.lateStores }, { on := 5, ground := Go.Ground.textOnly Go.Departure.lateStores }, { on := 6, ground := Go.Ground.textOnly Go.Departure.lateStoresUnsure }, { on := 7, ground := Go.Ground.phase }, { on := 8, ground := Go.Ground.phase }, { on := 9, ground := Go.Ground.phase }], guard := none }) rfl (fun K hK => ?_) ?_
            · refine st_store (by rfl) 27 (.tmp 4) (.tmp 31) (by rfl) gA (u8s r1).toArray e4_4 e31_4 27 _ HA4 HS1.out HZ1.out HU1.out ?_
              intro W5 q5 HA5
              have Q5 := qt_grown Q4 q5 bA
              have HB5 := blk_far HB4 q5 (fun e => ne (by rw [e]))
              refine hK _ _ ?_
              clear hK K
              refine gen_frame fun F5 hA => ?_
              have hF : F5 = F4.put none undef := hA
              have hF5 := Lib.hid hF
              have e30_5 : F5.eval (.tmp 30) = Value.slice (some ⟨b, off, none⟩) m c := by rw [hF, ev_none]; exact e30_4
              have e34_5 : F5.eval (.tmp 34) = Value.slice (some ⟨b, off + m * 32, none⟩) (n - m) (c - m) := by rw [hF, ev_none]; exact e34_4
              have e31_5 : F5.eval (.tmp 31) = (.agg (u8s r1).toArray) := by rw [hF, ev_none]; exact e31_4
              have e35_5 : F5.eval (.tmp 35) = (.agg (u8s r2).toArray) := by rw [hF, ev_none]; exact e35_4
              have e4_5 : F5.eval (.tmp 4) = (.pointer (some ⟨gA, 0, none⟩)) := by rw [hF, ev_none]; exact e4_4
              have e5_5 : F5.eval (.tmp 5) = (.pointer (some ⟨gB, 0, none⟩)) := by rw [hF, ev_none]; exact e5_4
              have z5 : F5.tmps.size = 41 := by rw [hF, put_size]; exact z4
              clear hF hA
              refine wpAny_ready (rs := [11]) (by kernel_rfl) (by simp) ?_
              refine AllReady.cons (o := { dst := none, op := Go.Op.store 27 (Go.Operand.tmp 5) (Go.Operand.tmp 35), type := 0, pos := "sum.go:124", after := #[{ on := 9, ground := Go.Ground.data }, { on := 7, ground := Go.Ground.data }, { on := 10, ground := Go.Ground.chain }, { on := 0, ground := Go.Ground.phase }, { on := 1, ground := Go.Ground.phase }, { on := 2, ground := Go.Ground.phase }, { on := 3, ground := Go.Ground.phase }, { on := 4, ground := Go.Ground.phase }, { on := 5, ground := Go.Ground.phase }, { on := 6, ground := Go.Ground.phase }, { on := 7, ground := Go.Ground.phase }, { on := 8, ground := Go.Ground.phase }, { on := 9, ground := Go.Ground.phase }, { on := 10, ground := Go.Ground.phase }], guard := none }) rfl (fun K hK => ?_) ?_
              · refine st_store (by rfl) 27 (.tmp 5) (.tmp 35) (by rfl) gB (u8s r2).toArray e5_5 e35_5 27 _ HB5 HS2.out HZ2.out HU2.out ?_
                intro W6 q6 HB6
                have Q6 := qt_grown Q5 q6 bB
                have HA6 := blk_far HA5 q6 (fun e => ne (by rw [e]))
                refine hK _ _ ?_
                clear hK K
                refine gen_frame fun F6 hA => ?_
                have hF : F6 = F5.put none undef := hA
                have hF6 := Lib.hid hF
                have e30_6 : F6.eval (.tmp 30) = Value.slice (some ⟨b, off, none⟩) m c := by rw [hF, ev_none]; exact e30_5
                have e34_6 : F6.eval (.tmp 34) = Value.slice (some ⟨b, off + m * 32, none⟩) (n - m) (c - m) := by rw [hF, ev_none]; exact e34_5
                have e31_6 : F6.eval (.tmp 31) = (.agg (u8s r1).toArray) := by rw [hF, ev_none]; exact e31_5
                have e35_6 : F6.eval (.tmp 35) = (.agg (u8s r2).toArray) := by rw [hF, ev_none]; exact e35_5
                have e4_6 : F6.eval (.tmp 4) = (.pointer (some ⟨gA, 0, none⟩)) := by rw [hF, ev_none]; exact e4_5
                have e5_6 : F6.eval (.tmp 5) = (.pointer (some ⟨gB, 0, none⟩)) := by rw [hF, ev_none]; exact e5_5
                have z6 : F6.tmps.size = 41 := by rw [hF, put_size]; exact z5
                clear hF hA
                refine wpAny_done (by kernel_rfl) ?_ _
                rw [hF6.out, hF5.out, hF4.out, hF3.out, hF2.out, hF1.out, hF0.out]
                go_wp2_with fail
                go_meet
                exact ⟨gA, gB, rfl, rfl, HR.out.below Q6, HA6, HB6⟩
              exact AllReady.nil
            exact AllReady.nil
          exact AllReady.nil
        refine AllReady.cons (o := { dst := some 5, op := Go.Op.alloc 27, type := 0, pos := "sum.go:124", after := #[], guard := none }) rfl (fun K hK => ?_) ?_
        · refine st_alloc (by rfl) 27 (by rfl) _ halloc ?_
          intro gB W3 q3 lB HB3
          have Q3 := Q2.trans q3
          have bB : W0.heap.size ≤ gB := Nat.le_trans Q2.size lB
          refine hK _ _ ?_
          clear hK K
          refine gen_frame fun F3 hA => ?_
          have hF : F3 = F2.put (some 5) (.pointer (some ⟨gB, 0, none⟩)) := hA
          have hF3 := Lib.hid hF
          have e30_3 : F3.eval (.tmp 30) = Value.slice (some ⟨b, off, none⟩) m c := by rw [hF, ev_other (by decide)]; exact e30_2
          have e34_3 : F3.eval (.tmp 34) = Value.slice (some ⟨b, off + m * 32, none⟩) (n - m) (c - m) := by rw [hF, ev_other (by decide)]; exact e34_2
          have e31_3 : F3.eval (.tmp 31) = (.agg (u8s r1).toArray) := by rw [hF, ev_other (by decide)]; exact e31_2
          have e35_3 : F3.eval (.tmp 35) = (.agg (u8s r2).toArray) := by rw [hF, ev_other (by decide)]; exact e35_2
          have e5_3 : F3.eval (.tmp 5) = (.pointer (some ⟨gB, 0, none⟩)) := by rw [hF]; exact ev_same (by rw [z2]; decide)
          have z3 : F3.tmps.size = 41 := by rw [hF, put_size]; exact z2
          clear hF hA
          refine wpAny_ready (rs := [8]) (by kernel_rfl) (by simp) ?_
          refine AllReady.cons (o := { dst := some 4, op := Go.Op.alloc 27, type := 0, pos := "sum.go:124", after := #[], guard := none }) rfl (fun K hK => ?_) ?_
          · refine st_alloc (by rfl) 27 (by rfl) _ halloc ?_
            intro gA W4 q4 lA HA4
            have Q4 := Q3.trans q4
            have bA : W0.heap.size ≤ gA := Nat.le_trans Q3.size lA
            have HB4 := blk_qt HB3 q4
            have ne : gB ≠ gA := Nat.ne_of_lt (Nat.lt_of_lt_of_le (blk_lt HB3) lA)
            refine hK _ _ ?_
            clear hK K
            refine gen_frame fun F4 hA => ?_
            have hF : F4 = F3.put (some 4) (.pointer (some ⟨gA, 0, none⟩)) := hA
            have hF4 := Lib.hid hF
            have e30_4 : F4.eval (.tmp 30) = Value.slice (some ⟨b, off, none⟩) m c := by rw [hF, ev_other (by decide)]; exact e30_3
            have e34_4 : F4.eval (.tmp 34) = Value.slice (some ⟨b, off + m * 32, none⟩) (n - m) (c - m) := by rw [hF, ev_other (by decide)]; exact e34_3
            have e31_4 : F4.eval (.tmp 31) = (.agg (u8s r1).toArray) := by rw [hF, ev_other (by decide)]; exact e31_3
            have e35_4 : F4.eval (.tmp 35) = (.agg (u8s r2).toArray) := by rw [hF, ev_other (by decide)]; exact e35_3
            have e5_4 : F4.eval (.tmp 5) = (.pointer (some ⟨gB, 0, none⟩)) := by rw [hF, ev_other (by decide)]; exact e5_3
            have e4_4 : F4.eval (.tmp 4) = (.pointer (some ⟨gA, 0, none⟩)) := by rw [hF]; exact ev_same (by rw [z3]; decide)
            have z4 : F4.tmps.size = 41 := by rw [hF, put_size]; exact z3
            clear hF hA
            refine wpAny_ready (rs := [10]) (by kernel_rfl) (by simp) ?_
            refine AllReady.cons (o := { dst := none, op := Go.Op.store 27 (Go.Operand.tmp 4) (Go.Operand.tmp 31), type := 0, pos := "sum.go:124", after := #[{ on := 8, ground := Go.Ground.data }, { on := 3, ground := Go.Ground.data }, { on := 7, ground := Go.Ground.chain }, { on := 0, ground := Go.Ground.phase }, { on := 1, ground := Go.Ground.phase }, { on := 2, ground := Go.Ground.phase }, { on := 3, ground := Go.Ground.phase }, { on := 4, ground := Go.Ground.textOnly Go.Departure.lateStores }, { on := 5, ground := Go.Ground.textOnly Go.Departure.lateStores }, { on := 6, ground := Go.Ground.textOnly Go.Departure.lateStoresUnsure }, { on := 7, ground := Go.Ground.phase }, { on := 8, ground := Go.Ground.phase }, { on := 9, ground := Go.Ground.phase }], guard := none }) rfl (fun K hK => ?_) ?_
            · refine st_store (by rfl) 27 (.tmp 4) (.tmp 31) (by rfl) gA (u8s r1).toArray e4_4 e31_4 27 _ HA4 HS1.out HZ1.out HU1.out ?_
              intro W5 q5 HA5
              have Q5 := qt_grown Q4 q5 bA
              have HB5 := blk_far HB4 q5 (fun e => ne (by rw [e]))
              refine hK _ _ ?_
              clear hK K
              refine gen_frame fun F5 hA => ?_
              have hF : F5 = F4.put none undef := hA
              have hF5 := Lib.hid hF
              have e30_5 : F5.eval (.tmp 30) = Value.slice (some ⟨b, off, none⟩) m c := by rw [hF, ev_none]; exact e30_4
              have e34_5 : F5.eval (.tmp 34) = Value.slice (some ⟨b, off + m * 32, none⟩) (n - m) (c - m) := by rw [hF, ev_none]; exact e34_4
              have e31_5 : F5.eval (.tmp 31) = (.agg (u8s r1).toArray) := by rw [hF, ev_none]; exact e31_4
              have e35_5 : F5.eval (.tmp 35) = (.agg (u8s r2).toArray) := by rw [hF, ev_none]; exact e35_4
              have e5_5 : F5.eval (.tmp 5) = (.pointer (some ⟨gB, 0, none⟩)) := by rw [hF, ev_none]; exact e5_4
              have e4_5 : F5.eval (.tmp 4) = (.pointer (some ⟨gA, 0, none⟩)) := by rw [hF, ev_none]; exact e4_4
              have z5 : F5.tmps.size = 41 := by rw [hF, put_size]; exact z4
              clear hF hA
              refine wpAny_ready (rs := [11]) (by kernel_rfl) (by simp) ?_
              refine AllReady.cons (o := { dst := none, op := Go.Op.store 27 (Go.Operand.tmp 5) (Go.Operand.tmp 35), type := 0, pos := "sum.go:124", after := #[{ on := 9, ground := Go.Ground.data }, { on := 7, ground := Go.Ground.data }, { on := 10, ground := Go.Ground.chain }, { on := 0, ground := Go.Ground.phase }, { on := 1, ground := Go.Ground.phase }, { on := 2, ground := Go.Ground.phase }, { on := 3, ground := Go.Ground.phase }, { on := 4, ground := Go.Ground.phase }, { on := 5, ground := Go.Ground.phase }, { on := 6, ground := Go.Ground.phase }, { on := 7, ground := Go.Ground.phase }, { on := 8, ground := Go.Ground.phase }, { on := 9, ground := Go.Ground.phase }, { on := 10, ground := Go.Ground.phase }], guard := none }) rfl (fun K hK => ?_) ?_
              · refine st_store (by rfl) 27 (.tmp 5) (.tmp 35) (by rfl) gB (u8s r2).toArray e5_5 e35_5 27 _ HB5 HS2.out HZ2.out HU2.out ?_
                intro W6 q6 HB6
                have Q6 := qt_grown Q5 q6 bB
                have HA6 := blk_far HA5 q6 (fun e => ne (by rw [e]))
                refine hK _ _ ?_
                clear hK K
                refine gen_frame fun F6 hA => ?_
                have hF : F6 = F5.put none undef := hA
                have hF6 := Lib.hid hF
                have e30_6 : F6.eval (.tmp 30) = Value.slice (some ⟨b, off, none⟩) m c := by rw [hF, ev_none]; exact e30_5
                have e34_6 : F6.eval (.tmp 34) = Value.slice (some ⟨b, off + m * 32, none⟩) (n - m) (c - m) := by rw [hF, ev_none]; exact e34_5
                have e31_6 : F6.eval (.tmp 31) = (.agg (u8s r1).toArray) := by rw [hF, ev_none]; exact e31_5
                have e35_6 : F6.eval (.tmp 35) = (.agg (u8s r2).toArray) := by rw [hF, ev_none]; exact e35_5
                have e5_6 : F6.eval (.tmp 5) = (.pointer (some ⟨gB, 0, none⟩)) := by rw [hF, ev_none]; exact e5_5
                have e4_6 : F6.eval (.tmp 4) = (.pointer (some ⟨gA, 0, none⟩)) := by rw [hF, ev_none]; exact e4_5
                have z6 : F6.tmps.size = 41 := by rw [hF, put_size]; exact z5
                clear hF hA
                refine wpAny_done (by kernel_rfl) ?_ _
                rw [hF6.out, hF5.out, hF4.out, hF3.out, hF2.out, hF1.out, hF0.out]
                go_wp2_with fail
                go_meet
                exact ⟨gA, gB, rfl, rfl, HR.out.below Q6, HA6, HB6⟩
              exact AllReady.nil
            exact AllReady.nil
          exact AllReady.nil
        exact AllReady.nil
      refine AllReady.cons (o := { dst := some 4, op := Go.Op.alloc 27, type := 0, pos := "sum.go:124", after := #[], guard := none }) rfl (fun K hK => ?_) ?_
      · refine st_alloc (by rfl) 27 (by rfl) _ halloc ?_
        intro gA W2 q2 lA HA2
        have Q2 := Q1.trans q2
        have bA : W0.heap.size ≤ gA := Nat.le_trans Q1.size lA
        refine hK _ _ ?_
        clear hK K
        refine gen_frame fun F2 hA => ?_
        have hF : F2 = F1.put (some 4) (.pointer (some ⟨gA, 0, none⟩)) := hA
        have hF2 := Lib.hid hF
        have e30_2 : F2.eval (.tmp 30) = Value.slice (some ⟨b, off, none⟩) m c := by rw [hF, ev_other (by decide)]; exact e30_1
        have e34_2 : F2.eval (.tmp 34) = Value.slice (some ⟨b, off + m * 32, none⟩) (n - m) (c - m) := by rw [hF, ev_other (by decide)]; exact e34_1
        have e31_2 : F2.eval (.tmp 31) = (.agg (u8s r1).toArray) := by rw [hF, ev_other (by decide)]; exact e31_1
        have e4_2 : F2.eval (.tmp 4) = (.pointer (some ⟨gA, 0, none⟩)) := by rw [hF]; exact ev_same (by rw [z1]; decide)
        have z2 : F2.tmps.size = 41 := by rw [hF, put_size]; exact z1
        clear hF hA
        refine wpAny_ready (rs := [7, 9]) (by kernel_rfl) (by simp) ?_
        refine AllReady.cons (o := { dst := some 35, op := Go.Op.call { callee := Go.Callee.value (Go.Operand.func 14), args := #[Go.Operand.tmp 34], argTypes := #[32] }, type := 27, pos := "sum.go:124", after := #[{ on := 6, ground := Go.Ground.data }, { on := 3, ground := Go.Ground.chain }], guard := none }) rfl (fun K hK => ?_) ?_
        · refine st_call1 (by rfl) 14 (.tmp 34) 32 (by rfl) (.slice (some ⟨b, off + m * 32, none⟩) (n - m) (c - m)) e34_2 (hcf _) _ (Qt W2) (HC2.out _ (HQ1.out.trans Q2)) ?_
          intro W3 q3
          have Q3 := Q2.trans q3
          have HA3 := blk_qt HA2 q3
          refine hK _ _ ?_
          clear hK K
          refine gen_frame fun F3 hA => ?_
          have hF : F3 = F2.put (some 35) (.agg (u8s r2).toArray) := hA
          have hF3 := Lib.hid hF
          have e30_3 : F3.eval (.tmp 30) = Value.slice (some ⟨b, off, none⟩) m c := by rw [hF, ev_other (by decide)]; exact e30_2
          have e34_3 : F3.eval (.tmp 34) = Value.slice (some ⟨b, off + m * 32, none⟩) (n - m) (c - m) := by rw [hF, ev_other (by decide)]; exact e34_2
          have e31_3 : F3.eval (.tmp 31) = (.agg (u8s r1).toArray) := by rw [hF, ev_other (by decide)]; exact e31_2
          have e4_3 : F3.eval (.tmp 4) = (.pointer (some ⟨gA, 0, none⟩)) := by rw [hF, ev_other (by decide)]; exact e4_2
          have e35_3 : F3.eval (.tmp 35) = (.agg (u8s r2).toArray) := by rw [hF]; exact ev_same (by rw [z2]; decide)
          have z3 : F3.tmps.size = 41 := by rw [hF, put_size]; exact z2
          clear hF hA
          refine wpAny_ready (rs := [9]) (by kernel_rfl) (by simp) ?_
          refine AllReady.cons (o := { dst := some 5, op := Go.Op.alloc 27, type := 0, pos := "sum.go:124", after := #[], guard := none }) rfl (fun K hK => ?_) ?_
          · refine st_alloc (by rfl) 27 (by rfl) _ halloc ?_
            intro gB W4 q4 lB HB4
            have Q4 := Q3.trans q4
            have bB : W0.heap.size ≤ gB := Nat.le_trans Q3.size lB
            have HA4 := blk_qt HA3 q4
            have ne : gA ≠ gB := Nat.ne_of_lt (Nat.lt_of_lt_of_le (blk_lt HA3) lB)
            refine hK _ _ ?_
            clear hK K
            refine gen_frame fun F4 hA => ?_
            have hF : F4 = F3.put (some 5) (.pointer (some ⟨gB, 0, none⟩)) := hA
            have hF4 := Lib.hid hF
            have e30_4 : F4.eval (.tmp 30) = Value.slice (some ⟨b, off, none⟩) m c := by rw [hF, ev_other (by decide)]; exact e30_3
            have e34_4 : F4.eval (.tmp 34) = Value.slice (some ⟨b, off + m * 32, none⟩) (n - m) (c - m) := by rw [hF, ev_other (by decide)]; exact e34_3
            have e31_4 : F4.eval (.tmp 31) = (.agg (u8s r1).toArray) := by rw [hF, ev_other (by decide)]; exact e31_3
            have e4_4 : F4.eval (.tmp 4) = (.pointer (some ⟨gA, 0, none⟩)) := by rw [hF, ev_other (by decide)]; exact e4_3
            have e35_4 : F4.eval (.tmp 35) = (.agg (u8s r2).toArray) := by rw [hF, ev_other (by decide)]; exact e35_3
            have e5_4 : F4.eval (.tmp 5) = (.pointer (some ⟨gB, 0, none⟩)) := by rw [hF]; exact ev_same (by rw [z3]; decide)
            have z4 : F4.tmps.size = 41 := by rw [hF, put_size]; exact z3
            clear hF hA
            refine wpAny_ready (rs := [10]) (by kernel_rfl) (by simp) ?_
            refine AllReady.cons (o := { dst := none, op := Go.Op.store 27 (Go.Operand.tmp 4) (Go.Operand.tmp 31), type := 0, pos := "sum.go:124", after := #[{ on := 8, ground := Go.Ground.data }, { on := 3, ground := Go.Ground.data }, { on := 7, ground := Go.Ground.chain }, { on := 0, ground := Go.Ground.phase }, { on := 1, ground := Go.Ground.phase }, { on := 2, ground := Go.Ground.phase }, { on := 3, ground := Go.Ground.phase }, { on := 4, ground := Go.Ground.textOnly Go.Departure.lateStores }, { on := 5, ground := Go.Ground.textOnly Go.Departure.lateStores }, { on := 6, ground := Go.Ground.textOnly Go.Departure.lateStoresUnsure }, { on := 7, ground := Go.Ground.phase }, { on := 8, ground := Go.Ground.phase }, { on := 9, ground := Go.Ground.phase }], guard := none }) rfl (fun K hK => ?_) ?_
            · refine st_store (by rfl) 27 (.tmp 4) (.tmp 31) (by rfl) gA (u8s r1).toArray e4_4 e31_4 27 _ HA4 HS1.out HZ1.out HU1.out ?_
              intro W5 q5 HA5
              have Q5 := qt_grown Q4 q5 bA
              have HB5 := blk_far HB4 q5 (fun e => ne (by rw [e]))
              refine hK _ _ ?_
              clear hK K
              refine gen_frame fun F5 hA => ?_
              have hF : F5 = F4.put none undef := hA
              have hF5 := Lib.hid hF
              have e30_5 : F5.eval (.tmp 30) = Value.slice (some ⟨b, off, none⟩) m c := by rw [hF, ev_none]; exact e30_4
              have e34_5 : F5.eval (.tmp 34) = Value.slice (some ⟨b, off + m * 32, none⟩) (n - m) (c - m) := by rw [hF, ev_none]; exact e34_4
              have e31_5 : F5.eval (.tmp 31) = (.agg (u8s r1).toArray) := by rw [hF, ev_none]; exact e31_4
              have e4_5 : F5.eval (.tmp 4) = (.pointer (some ⟨gA, 0, none⟩)) := by rw [hF, ev_none]; exact e4_4
              have e35_5 : F5.eval (.tmp 35) = (.agg (u8s r2).toArray) := by rw [hF, ev_none]; exact e35_4
              have e5_5 : F5.eval (.tmp 5) = (.pointer (some ⟨gB, 0, none⟩)) := by rw [hF, ev_none]; exact e5_4
              have z5 : F5.tmps.size = 41 := by rw [hF, put_size]; exact z4
              clear hF hA
              refine wpAny_ready (rs := [11]) (by kernel_rfl) (by simp) ?_
              refine AllReady.cons (o := { dst := none, op := Go.Op.store 27 (Go.Operand.tmp 5) (Go.Operand.tmp 35), type := 0, pos := "sum.go:124", after := #[{ on := 9, ground := Go.Ground.data }, { on := 7, ground := Go.Ground.data }, { on := 10, ground := Go.Ground.chain }, { on := 0, ground := Go.Ground.phase }, { on := 1, ground := Go.Ground.phase }, { on := 2, ground := Go.Ground.phase }, { on := 3, ground := Go.Ground.phase }, { on := 4, ground := Go.Ground.phase }, { on := 5, ground := Go.Ground.phase }, { on := 6, ground := Go.Ground.phase }, { on := 7, ground := Go.Ground.phase }, { on := 8, ground := Go.Ground.phase }, { on := 9, ground := Go.Ground.phase }, { on := 10, ground := Go.Ground.phase }], guard := none }) rfl (fun K hK => ?_) ?_
              · refine st_store (by rfl) 27 (.tmp 5) (.tmp 35) (by rfl) gB (u8s r2).toArray e5_5 e35_5 27 _ HB5 HS2.out HZ2.out HU2.out ?_
                intro W6 q6 HB6
                have Q6 := qt_grown Q5 q6 bB
                have HA6 := blk_far HA5 q6 (fun e => ne (by rw [e]))
                refine hK _ _ ?_
                clear hK K
                refine gen_frame fun F6 hA => ?_
                have hF : F6 = F5.put none undef := hA
                have hF6 := Lib.hid hF
                have e30_6 : F6.eval (.tmp 30) = Value.slice (some ⟨b, off, none⟩) m c := by rw [hF, ev_none]; exact e30_5
                have e34_6 : F6.eval (.tmp 34) = Value.slice (some ⟨b, off + m * 32, none⟩) (n - m) (c - m) := by rw [hF, ev_none]; exact e34_5
                have e31_6 : F6.eval (.tmp 31) = (.agg (u8s r1).toArray) := by rw [hF, ev_none]; exact e31_5
                have e4_6 : F6.eval (.tmp 4) = (.pointer (some ⟨gA, 0, none⟩)) := by rw [hF, ev_none]; exact e4_5
                have e35_6 : F6.eval (.tmp 35) = (.agg (u8s r2).toArray) := by rw [hF, ev_none]; exact e35_5
                have e5_6 : F6.eval (.tmp 5) = (.pointer (some ⟨gB, 0, none⟩)) := by rw [hF, ev_none]; exact e5_5
                have z6 : F6.tmps.size = 41 := by rw [hF, put_size]; exact z5
                clear hF hA
                refine wpAny_done (by kernel_rfl) ?_ _
                rw [hF6.out, hF5.out, hF4.out, hF3.out, hF2.out, hF1.out, hF0.out]
                go_wp2_with fail
                go_meet
                exact ⟨gA, gB, rfl, rfl, HR.out.below Q6, HA6, HB6⟩
              exact AllReady.nil
            exact AllReady.nil
          exact AllReady.nil
        refine AllReady.cons (o := { dst := some 5, op := Go.Op.alloc 27, type := 0, pos := "sum.go:124", after := #[], guard := none }) rfl (fun K hK => ?_) ?_
        · refine st_alloc (by rfl) 27 (by rfl) _ halloc ?_
          intro gB W3 q3 lB HB3
          have Q3 := Q2.trans q3
          have bB : W0.heap.size ≤ gB := Nat.le_trans Q2.size lB
          have HA3 := blk_qt HA2 q3
          have ne : gA ≠ gB := Nat.ne_of_lt (Nat.lt_of_lt_of_le (blk_lt HA2) lB)
          refine hK _ _ ?_
          clear hK K
          refine gen_frame fun F3 hA => ?_
          have hF : F3 = F2.put (some 5) (.pointer (some ⟨gB, 0, none⟩)) := hA
          have hF3 := Lib.hid hF
          have e30_3 : F3.eval (.tmp 30) = Value.slice (some ⟨b, off, none⟩) m c := by rw [hF, ev_other (by decide)]; exact e30_2
          have e34_3 : F3.eval (.tmp 34) = Value.slice (some ⟨b, off + m * 32, none⟩) (n - m) (c - m) := by rw [hF, ev_other (by decide)]; exact e34_2
          have e31_3 : F3.eval (.tmp 31) = (.agg (u8s r1).toArray) := by rw [hF, ev_other (by decide)]; exact e31_2
          have e4_3 : F3.eval (.tmp 4) = (.pointer (some ⟨gA, 0, none⟩)) := by rw [hF, ev_other (by decide)]; exact e4_2
          have e5_3 : F3.eval (.tmp 5) = (.pointer (some ⟨gB, 0, none⟩)) := by rw [hF]; exact ev_same (by rw [z2]; decide)
          have z3 : F3.tmps.size = 41 := by rw [hF, put_size]; exact z2
          clear hF hA
          refine wpAny_ready (rs := [7]) (by kernel_rfl) (by simp) ?_
          refine AllReady.cons (o := { dst := some 35, op := Go.Op.call { callee := Go.Callee.value (Go.Operand.func 14), args := #[Go.Operand.tmp 34], argTypes := #[32] }, type := 27, pos := "sum.go:124", after := #[{ on := 6, ground := Go.Ground.data }, { on := 3, ground := Go.Ground.chain }], guard := none }) rfl (fun K hK => ?_) ?_
          · refine st_call1 (by rfl) 14 (.tmp 34) 32 (by rfl) (.slice (some ⟨b, off + m * 32, none⟩) (n - m) (c - m)) e34_3 (hcf _) _ (Qt W3) (HC2.out _ (HQ1.out.trans Q3)) ?_
            intro W4 q4
            have Q4 := Q3.trans q4
            have HA4 := blk_qt HA3 q4
            have HB4 := blk_qt HB3 q4
            refine hK _ _ ?_
            clear hK K
            refine gen_frame fun F4 hA => ?_
            have hF : F4 = F3.put (some 35) (.agg (u8s r2).toArray) := hA
            have hF4 := Lib.hid hF
            have e30_4 : F4.eval (.tmp 30) = Value.slice (some ⟨b, off, none⟩) m c := by rw [hF, ev_other (by decide)]; exact e30_3
            have e34_4 : F4.eval (.tmp 34) = Value.slice (some ⟨b, off + m * 32, none⟩) (n - m) (c - m) := by rw [hF, ev_other (by decide)]; exact e34_3
            have e31_4 : F4.eval (.tmp 31) = (.agg (u8s r1).toArray) := by rw [hF, ev_other (by decide)]; exact e31_3
            have e4_4 : F4.eval (.tmp 4) = (.pointer (some ⟨gA, 0, none⟩)) := by rw [hF, ev_other (by decide)]; exact e4_3
            have e5_4 : F4.eval (.tmp 5) = (.pointer (some ⟨gB, 0, none⟩)) := by rw [hF, ev_other (by decide)]; exact e5_3
            have e35_4 : F4.eval (.tmp 35) = (.agg (u8s r2).toArray) := by rw [hF]; exact ev_same (by rw [z3]; decide)
            have z4 : F4.tmps.size = 41 := by rw [hF, put_size]; exact z3
            clear hF hA
            refine wpAny_ready (rs := [10]) (by kernel_rfl) (by simp) ?_
            refine AllReady.cons (o := { dst := none, op := Go.Op.store 27 (Go.Operand.tmp 4) (Go.Operand.tmp 31), type := 0, pos := "sum.go:124", after := #[{ on := 8, ground := Go.Ground.data }, { on := 3, ground := Go.Ground.data }, { on := 7, ground := Go.Ground.chain }, { on := 0, ground := Go.Ground.phase }, { on := 1, ground := Go.Ground.phase }, { on := 2, ground := Go.Ground.phase }, { on := 3, ground := Go.Ground.phase }, { on := 4, ground := Go.Ground.textOnly Go.Departure.lateStores }, { on := 5, ground := Go.Ground.textOnly Go.Departure.lateStores }, { on := 6, ground := Go.Ground.textOnly Go.Departure.lateStoresUnsure }, { on := 7, ground := Go.Ground.phase }, { on := 8, ground := Go.Ground.phase }, { on := 9, ground := Go.Ground.phase }], guard := none }) rfl (fun K hK => ?_) ?_
            · refine st_store (by rfl) 27 (.tmp 4) (.tmp 31) (by rfl) gA (u8s r1).toArray e4_4 e31_4 27 _ HA4 HS1.out HZ1.out HU1.out ?_
              intro W5 q5 HA5
              have Q5 := qt_grown Q4 q5 bA
              have HB5 := blk_far HB4 q5 (fun e => ne (by rw [e]))
              refine hK _ _ ?_
              clear hK K
              refine gen_frame fun F5 hA => ?_
              have hF : F5 = F4.put none undef := hA
              have hF5 := Lib.hid hF
              have e30_5 : F5.eval (.tmp 30) = Value.slice (some ⟨b, off, none⟩) m c := by rw [hF, ev_none]; exact e30_4
              have e34_5 : F5.eval (.tmp 34) = Value.slice (some ⟨b, off + m * 32, none⟩) (n - m) (c - m) := by rw [hF, ev_none]; exact e34_4
              have e31_5 : F5.eval (.tmp 31) = (.agg (u8s r1).toArray) := by rw [hF, ev_none]; exact e31_4
              have e4_5 : F5.eval (.tmp 4) = (.pointer (some ⟨gA, 0, none⟩)) := by rw [hF, ev_none]; exact e4_4
              have e5_5 : F5.eval (.tmp 5) = (.pointer (some ⟨gB, 0, none⟩)) := by rw [hF, ev_none]; exact e5_4
              have e35_5 : F5.eval (.tmp 35) = (.agg (u8s r2).toArray) := by rw [hF, ev_none]; exact e35_4
              have z5 : F5.tmps.size = 41 := by rw [hF, put_size]; exact z4
              clear hF hA
              refine wpAny_ready (rs := [11]) (by kernel_rfl) (by simp) ?_
              refine AllReady.cons (o := { dst := none, op := Go.Op.store 27 (Go.Operand.tmp 5) (Go.Operand.tmp 35), type := 0, pos := "sum.go:124", after := #[{ on := 9, ground := Go.Ground.data }, { on := 7, ground := Go.Ground.data }, { on := 10, ground := Go.Ground.chain }, { on := 0, ground := Go.Ground.phase }, { on := 1, ground := Go.Ground.phase }, { on := 2, ground := Go.Ground.phase }, { on := 3, ground := Go.Ground.phase }, { on := 4, ground := Go.Ground.phase }, { on := 5, ground := Go.Ground.phase }, { on := 6, ground := Go.Ground.phase }, { on := 7, ground := Go.Ground.phase }, { on := 8, ground := Go.Ground.phase }, { on := 9, ground := Go.Ground.phase }, { on := 10, ground := Go.Ground.phase }], guard := none }) rfl (fun K hK => ?_) ?_
              · refine st_store (by rfl) 27 (.tmp 5) (.tmp 35) (by rfl) gB (u8s r2).toArray e5_5 e35_5 27 _ HB5 HS2.out HZ2.out HU2.out ?_
                intro W6 q6 HB6
                have Q6 := qt_grown Q5 q6 bB
                have HA6 := blk_far HA5 q6 (fun e => ne (by rw [e]))
                refine hK _ _ ?_
                clear hK K
                refine gen_frame fun F6 hA => ?_
                have hF : F6 = F5.put none undef := hA
                have hF6 := Lib.hid hF
                have e30_6 : F6.eval (.tmp 30) = Value.slice (some ⟨b, off, none⟩) m c := by rw [hF, ev_none]; exact e30_5
                have e34_6 : F6.eval (.tmp 34) = Value.slice (some ⟨b, off + m * 32, none⟩) (n - m) (c - m) := by rw [hF, ev_none]; exact e34_5
                have e31_6 : F6.eval (.tmp 31) = (.agg (u8s r1).toArray) := by rw [hF, ev_none]; exact e31_5
                have e4_6 : F6.eval (.tmp 4) = (.pointer (some ⟨gA, 0, none⟩)) := by rw [hF, ev_none]; exact e4_5
                have e5_6 : F6.eval (.tmp 5) = (.pointer (some ⟨gB, 0, none⟩)) := by rw [hF, ev_none]; exact e5_5
                have e35_6 : F6.eval (.tmp 35) = (.agg (u8s r2).toArray) := by rw [hF, ev_none]; exact e35_5
                have z6 : F6.tmps.size = 41 := by rw [hF, put_size]; exact z5
                clear hF hA
                refine wpAny_done (by kernel_rfl) ?_ _
                rw [hF6.out, hF5.out, hF4.out, hF3.out, hF2.out, hF1.out, hF0.out]
                go_wp2_with fail
                go_meet
                exact ⟨gA, gB, rfl, rfl, HR.out.below Q6, HA6, HB6⟩
              exact AllReady.nil
            exact AllReady.nil
          exact AllReady.nil
        exact AllReady.nil
      refine AllReady.cons (o := { dst := some 5, op := Go.Op.alloc 27, type := 0, pos := "sum.go:124", after := #[], guard := none }) rfl (fun K hK => ?_) ?_
      · refine st_alloc (by rfl) 27 (by rfl) _ halloc ?_
        intro gB W2 q2 lB HB2
        have Q2 := Q1.trans q2
        have bB : W0.heap.size ≤ gB := Nat.le_trans Q1.size lB
        refine hK _ _ ?_
        clear hK K
        refine gen_frame fun F2 hA => ?_
        have hF : F2 = F1.put (some 5) (.pointer (some ⟨gB, 0, none⟩)) := hA
        have hF2 := Lib.hid hF
        have e30_2 : F2.eval (.tmp 30) = Value.slice (some ⟨b, off, none⟩) m c := by rw [hF, ev_other (by decide)]; exact e30_1
        have e34_2 : F2.eval (.tmp 34) = Value.slice (some ⟨b, off + m * 32, none⟩) (n - m) (c - m) := by rw [hF, ev_other (by decide)]; exact e34_1
        have e31_2 : F2.eval (.tmp 31) = (.agg (u8s r1).toArray) := by rw [hF, ev_other (by decide)]; exact e31_1
        have e5_2 : F2.eval (.tmp 5) = (.pointer (some ⟨gB, 0, none⟩)) := by rw [hF]; exact ev_same (by rw [z1]; decide)
        have z2 : F2.tmps.size = 41 := by rw [hF, put_size]; exact z1
        clear hF hA
        refine wpAny_ready (rs := [7, 8]) (by kernel_rfl) (by simp) ?_
        refine AllReady.cons (o := { dst := some 35, op := Go.Op.call { callee := Go.Callee.value (Go.Operand.func 14), args := #[Go.Operand.tmp 34], argTypes := #[32] }, type := 27, pos := "sum.go:124", after := #[{ on := 6, ground := Go.Ground.data }, { on := 3, ground := Go.Ground.chain }], guard := none }) rfl (fun K hK => ?_) ?_
        · refine st_call1 (by rfl) 14 (.tmp 34) 32 (by rfl) (.slice (some ⟨b, off + m * 32, none⟩) (n - m) (c - m)) e34_2 (hcf _) _ (Qt W2) (HC2.out _ (HQ1.out.trans Q2)) ?_
          intro W3 q3
          have Q3 := Q2.trans q3
          have HB3 := blk_qt HB2 q3
          refine hK _ _ ?_
          clear hK K
          refine gen_frame fun F3 hA => ?_
          have hF : F3 = F2.put (some 35) (.agg (u8s r2).toArray) := hA
          have hF3 := Lib.hid hF
          have e30_3 : F3.eval (.tmp 30) = Value.slice (some ⟨b, off, none⟩) m c := by rw [hF, ev_other (by decide)]; exact e30_2
          have e34_3 : F3.eval (.tmp 34) = Value.slice (some ⟨b, off + m * 32, none⟩) (n - m) (c - m) := by rw [hF, ev_other (by decide)]; exact e34_2
          have e31_3 : F3.eval (.tmp 31) = (.agg (u8s r1).toArray) := by rw [hF, ev_other (by decide)]; exact e31_2
          have e5_3 : F3.eval (.tmp 5) = (.pointer (some ⟨gB, 0, none⟩)) := by rw [hF, ev_other (by decide)]; exact e5_2
          have e35_3 : F3.eval (.tmp 35) = (.agg (u8s r2).toArray) := by rw [hF]; exact ev_same (by rw [z2]; decide)
          have z3 : F3.tmps.size = 41 := by rw [hF, put_size]; exact z2
          clear hF hA
          refine wpAny_ready (rs := [8]) (by kernel_rfl) (by simp) ?_
          refine AllReady.cons (o := { dst := some 4, op := Go.Op.alloc 27, type := 0, pos := "sum.go:124", after := #[], guard := none }) rfl (fun K hK => ?_) ?_
          · refine st_alloc (by rfl) 27 (by rfl) _ halloc ?_
            intro gA W4 q4 lA HA4
            have Q4 := Q3.trans q4
            have bA : W0.heap.size ≤ gA := Nat.le_trans Q3.size lA
            have HB4 := blk_qt HB3 q4
            have ne : gB ≠ gA := Nat.ne_of_lt (Nat.lt_of_lt_of_le (blk_lt HB3) lA)
            refine hK _ _ ?_
            clear hK K
            refine gen_frame fun F4 hA => ?_
            have hF : F4 = F3.put (some 4) (.pointer (some ⟨gA, 0, none⟩)) := hA
            have hF4 := Lib.hid hF
            have e30_4 : F4.eval (.tmp 30) = Value.slice (some ⟨b, off, none⟩) m c := by rw [hF, ev_other (by decide)]; exact e30_3
            have e34_4 : F4.eval (.tmp 34) = Value.slice (some ⟨b, off + m * 32, none⟩) (n - m) (c - m) := by rw [hF, ev_other (by decide)]; exact e34_3
            have e31_4 : F4.eval (.tmp 31) = (.agg (u8s r1).toArray) := by rw [hF, ev_other (by decide)]; exact e31_3
            have e5_4 : F4.eval (.tmp 5) = (.pointer (some ⟨gB, 0, none⟩)) := by rw [hF, ev_other (by decide)]; exact e5_3
            have e35_4 : F4.eval (.tmp 35) = (.agg (u8s r2).toArray) := by rw [hF, ev_other (by decide)]; exact e35_3
            have e4_4 : F4.eval (.tmp 4) = (.pointer (some ⟨gA, 0, none⟩)) := by rw [hF]; exact ev_same (by rw [z3]; decide)
            have z4 : F4.tmps.size = 41 := by rw [hF, put_size]; exact z3
            clear hF hA
            refine wpAny_ready (rs := [10]) (by kernel_rfl) (by simp) ?_
            refine AllReady.cons (o := { dst := none, op := Go.Op.store 27 (Go.Operand.tmp 4) (Go.Operand.tmp 31), type := 0, pos := "sum.go:124", after := #[{ on := 8, ground := Go.Ground.data }, { on := 3, ground := Go.Ground.data }, { on := 7, ground := Go.Ground.chain }, { on := 0, ground := Go.Ground.phase }, { on := 1, ground := Go.Ground.phase }, { on := 2, ground := Go.Ground.phase }, { on := 3, ground := Go.Ground.phase }, { on := 4, ground := Go.Ground.textOnly Go.Departure.lateStores }, { on := 5, ground := Go.Ground.textOnly Go.Departure.lateStores }, { on := 6, ground := Go.Ground.textOnly Go.Departure.lateStoresUnsure }, { on := 7, ground := Go.Ground.phase }, { on := 8, ground := Go.Ground.phase }, { on := 9, ground := Go.Ground.phase }], guard := none }) rfl (fun K hK => ?_) ?_
            · refine st_store (by rfl) 27 (.tmp 4) (.tmp 31) (by rfl) gA (u8s r1).toArray e4_4 e31_4 27 _ HA4 HS1.out HZ1.out HU1.out ?_
              intro W5 q5 HA5
              have Q5 := qt_grown Q4 q5 bA
              have HB5 := blk_far HB4 q5 (fun e => ne (by rw [e]))
              refine hK _ _ ?_
              clear hK K
              refine gen_frame fun F5 hA => ?_
              have hF : F5 = F4.put none undef := hA
              have hF5 := Lib.hid hF
              have e30_5 : F5.eval (.tmp 30) = Value.slice (some ⟨b, off, none⟩) m c := by rw [hF, ev_none]; exact e30_4
              have e34_5 : F5.eval (.tmp 34) = Value.slice (some ⟨b, off + m * 32, none⟩) (n - m) (c - m) := by rw [hF, ev_none]; exact e34_4
              have e31_5 : F5.eval (.tmp 31) = (.agg (u8s r1).toArray) := by rw [hF, ev_none]; exact e31_4
              have e5_5 : F5.eval (.tmp 5) = (.pointer (some ⟨gB, 0, none⟩)) := by rw [hF, ev_none]; exact e5_4
              have e35_5 : F5.eval (.tmp 35) = (.agg (u8s r2).toArray) := by rw [hF, ev_none]; exact e35_4
              have e4_5 : F5.eval (.tmp 4) = (.pointer (some ⟨gA, 0, none⟩)) := by rw [hF, ev_none]; exact e4_4
              have z5 : F5.tmps.size = 41 := by rw [hF, put_size]; exact z4
              clear hF hA
              refine wpAny_ready (rs := [11]) (by kernel_rfl) (by simp) ?_
              refine AllReady.cons (o := { dst := none, op := Go.Op.store 27 (Go.Operand.tmp 5) (Go.Operand.tmp 35), type := 0, pos := "sum.go:124", after := #[{ on := 9, ground := Go.Ground.data }, { on := 7, ground := Go.Ground.data }, { on := 10, ground := Go.Ground.chain }, { on := 0, ground := Go.Ground.phase }, { on := 1, ground := Go.Ground.phase }, { on := 2, ground := Go.Ground.phase }, { on := 3, ground := Go.Ground.phase }, { on := 4, ground := Go.Ground.phase }, { on := 5, ground := Go.Ground.phase }, { on := 6, ground := Go.Ground.phase }, { on := 7, ground := Go.Ground.phase }, { on := 8, ground := Go.Ground.phase }, { on := 9, ground := Go.Ground.phase }, { on := 10, ground := Go.Ground.phase }], guard := none }) rfl (fun K hK => ?_) ?_
              · refine st_store (by rfl) 27 (.tmp 5) (.tmp 35) (by rfl) gB (u8s r2).toArray e5_5 e35_5 27 _ HB5 HS2.out HZ2.out HU2.out ?_
                intro W6 q6 HB6
                have Q6 := qt_grown Q5 q6 bB
                have HA6 := blk_far HA5 q6 (fun e => ne (by rw [e]))
                refine hK _ _ ?_
                clear hK K
                refine gen_frame fun F6 hA => ?_
                have hF : F6 = F5.put none undef := hA
                have hF6 := Lib.hid hF
                have e30_6 : F6.eval (.tmp 30) = Value.slice (some ⟨b, off, none⟩) m c := by rw [hF, ev_none]; exact e30_5
                have e34_6 : F6.eval (.tmp 34) = Value.slice (some ⟨b, off + m * 32, none⟩) (n - m) (c - m) := by rw [hF, ev_none]; exact e34_5
                have e31_6 : F6.eval (.tmp 31) = (.agg (u8s r1).toArray) := by rw [hF, ev_none]; exact e31_5
                have e5_6 : F6.eval (.tmp 5) = (.pointer (some ⟨gB, 0, none⟩)) := by rw [hF, ev_none]; exact e5_5
                have e35_6 : F6.eval (.tmp 35) = (.agg (u8s r2).toArray) := by rw [hF, ev_none]; exact e35_5
                have e4_6 : F6.eval (.tmp 4) = (.pointer (some ⟨gA, 0, none⟩)) := by rw [hF, ev_none]; exact e4_5
                have z6 : F6.tmps.size = 41 := by rw [hF, put_size]; exact z5
                clear hF hA
                refine wpAny_done (by kernel_rfl) ?_ _
                rw [hF6.out, hF5.out, hF4.out, hF3.out, hF2.out, hF1.out, hF0.out]
                go_wp2_with fail
                go_meet
                exact ⟨gA, gB, rfl, rfl, HR.out.below Q6, HA6, HB6⟩
              exact AllReady.nil
            exact AllReady.nil
          exact AllReady.nil
        refine AllReady.cons (o := { dst := some 4, op := Go.Op.alloc 27, type := 0, pos := "sum.go:124", after := #[], guard := none }) rfl (fun K hK => ?_) ?_
        · refine st_alloc (by rfl) 27 (by rfl) _ halloc ?_
          intro gA W3 q3 lA HA3
          have Q3 := Q2.trans q3
          have bA : W0.heap.size ≤ gA := Nat.le_trans Q2.size lA
          have HB3 := blk_qt HB2 q3
          have ne : gB ≠ gA := Nat.ne_of_lt (Nat.lt_of_lt_of_le (blk_lt HB2) lA)
          refine hK _ _ ?_
          clear hK K
          refine gen_frame fun F3 hA => ?_
          have hF : F3 = F2.put (some 4) (.pointer (some ⟨gA, 0, none⟩)) := hA
          have hF3 := Lib.hid hF
          have e30_3 : F3.eval (.tmp 30) = Value.slice (some ⟨b, off, none⟩) m c := by rw [hF, ev_other (by decide)]; exact e30_2
          have e34_3 : F3.eval (.tmp 34) = Value.slice (some ⟨b, off + m * 32, none⟩) (n - m) (c - m) := by rw [hF, ev_other (by decide)]; exact e34_2
          have e31_3 : F3.eval (.tmp 31) = (.agg (u8s r1).toArray) := by rw [hF, ev_other (by decide)]; exact e31_2
          have e5_3 : F3.eval (.tmp 5) = (.pointer (some ⟨gB, 0, none⟩)) := by rw [hF, ev_other (by decide)]; exact e5_2
          have e4_3 : F3.eval (.tmp 4) = (.pointer (some ⟨gA, 0, none⟩)) := by rw [hF]; exact ev_same (by rw [z2]; decide)
          have z3 : F3.tmps.size = 41 := by rw [hF, put_size]; exact z2
          clear hF hA
          refine wpAny_ready (rs := [7]) (by kernel_rfl) (by simp) ?_
          refine AllReady.cons (o := { dst := some 35, op := Go.Op.call { callee := Go.Callee.value (Go.Operand.func 14), args := #[Go.Operand.tmp 34], argTypes := #[32] }, type := 27, pos := "sum.go:124", after := #[{ on := 6, ground := Go.Ground.data }, { on := 3, ground := Go.Ground.chain }], guard := none }) rfl (fun K hK => ?_) ?_
          · refine st_call1 (by rfl) 14 (.tmp 34) 32 (by rfl) (.slice (some ⟨b, off + m * 32, none⟩) (n - m) (c - m)) e34_3 (hcf _) _ (Qt W3) (HC2.out _ (HQ1.out.trans Q3)) ?_
            intro W4 q4
            have Q4 := Q3.trans q4
            have HA4 := blk_qt HA3 q4
            have HB4 := blk_qt HB3 q4
            refine hK _ _ ?_
            clear hK K
            refine gen_frame fun F4 hA => ?_
            have hF : F4 = F3.put (some 35) (.agg (u8s r2).toArray) := hA
            have hF4 := Lib.hid hF
            have e30_4 : F4.eval (.tmp 30) = Value.slice (some ⟨b, off, none⟩) m c := by rw [hF, ev_other (by decide)]; exact e30_3
            have e34_4 : F4.eval (.tmp 34) = Value.slice (some ⟨b, off + m * 32, none⟩) (n - m) (c - m) := by rw [hF, ev_other (by decide)]; exact e34_3
            have e31_4 : F4.eval (.tmp 31) = (.agg (u8s r1).toArray) := by rw [hF, ev_other (by decide)]; exact e31_3
            have e5_4 : F4.eval (.tmp 5) = (.pointer (some ⟨gB, 0, none⟩)) := by rw [hF, ev_other (by decide)]; exact e5_3
            have e4_4 : F4.eval (.tmp 4) = (.pointer (some ⟨gA, 0, none⟩)) := by rw [hF, ev_other (by decide)]; exact e4_3
            have e35_4 : F4.eval (.tmp 35) = (.agg (u8s r2).toArray) := by rw [hF]; exact ev_same (by rw [z3]; decide)
            have z4 : F4.tmps.size = 41 := by rw [hF, put_size]; exact z3
            clear hF hA
            refine wpAny_ready (rs := [10]) (by kernel_rfl) (by simp) ?_
            refine AllReady.cons (o := { dst := none, op := Go.Op.store 27 (Go.Operand.tmp 4) (Go.Operand.tmp 31), type := 0, pos := "sum.go:124", after := #[{ on := 8, ground := Go.Ground.data }, { on := 3, ground := Go.Ground.data }, { on := 7, ground := Go.Ground.chain }, { on := 0, ground := Go.Ground.phase }, { on := 1, ground := Go.Ground.phase }, { on := 2, ground := Go.Ground.phase }, { on := 3, ground := Go.Ground.phase }, { on := 4, ground := Go.Ground.textOnly Go.Departure.lateStores }, { on := 5, ground := Go.Ground.textOnly Go.Departure.lateStores }, { on := 6, ground := Go.Ground.textOnly Go.Departure.lateStoresUnsure }, { on := 7, ground := Go.Ground.phase }, { on := 8, ground := Go.Ground.phase }, { on := 9, ground := Go.Ground.phase }], guard := none }) rfl (fun K hK => ?_) ?_
            · refine st_store (by rfl) 27 (.tmp 4) (.tmp 31) (by rfl) gA (u8s r1).toArray e4_4 e31_4 27 _ HA4 HS1.out HZ1.out HU1.out ?_
              intro W5 q5 HA5
              have Q5 := qt_grown Q4 q5 bA
              have HB5 := blk_far HB4 q5 (fun e => ne (by rw [e]))
              refine hK _ _ ?_
              clear hK K
              refine gen_frame fun F5 hA => ?_
              have hF : F5 = F4.put none undef := hA
              have hF5 := Lib.hid hF
              have e30_5 : F5.eval (.tmp 30) = Value.slice (some ⟨b, off, none⟩) m c := by rw [hF, ev_none]; exact e30_4
              have e34_5 : F5.eval (.tmp 34) = Value.slice (some ⟨b, off + m * 32, none⟩) (n - m) (c - m) := by rw [hF, ev_none]; exact e34_4
              have e31_5 : F5.eval (.tmp 31) = (.agg (u8s r1).toArray) := by rw [hF, ev_none]; exact e31_4
              have e5_5 : F5.eval (.tmp 5) = (.pointer (some ⟨gB, 0, none⟩)) := by rw [hF, ev_none]; exact e5_4
              have e4_5 : F5.eval (.tmp 4) = (.pointer (some ⟨gA, 0, none⟩)) := by rw [hF, ev_none]; exact e4_4
              have e35_5 : F5.eval (.tmp 35) = (.agg (u8s r2).toArray) := by rw [hF, ev_none]; exact e35_4
              have z5 : F5.tmps.size = 41 := by rw [hF, put_size]; exact z4
              clear hF hA
              refine wpAny_ready (rs := [11]) (by kernel_rfl) (by simp) ?_
              refine AllReady.cons (o := { dst := none, op := Go.Op.store 27 (Go.Operand.tmp 5) (Go.Operand.tmp 35), type := 0, pos := "sum.go:124", after := #[{ on := 9, ground := Go.Ground.data }, { on := 7, ground := Go.Ground.data }, { on := 10, ground := Go.Ground.chain }, { on := 0, ground := Go.Ground.phase }, { on := 1, ground := Go.Ground.phase }, { on := 2, ground := Go.Ground.phase }, { on := 3, ground := Go.Ground.phase }, { on := 4, ground := Go.Ground.phase }, { on := 5, ground := Go.Ground.phase }, { on := 6, ground := Go.Ground.phase }, { on := 7, ground := Go.Ground.phase }, { on := 8, ground := Go.Ground.phase }, { on := 9, ground := Go.Ground.phase }, { on := 10, ground := Go.Ground.phase }], guard := none }) rfl (fun K hK => ?_) ?_
              · refine st_store (by rfl) 27 (.tmp 5) (.tmp 35) (by rfl) gB (u8s r2).toArray e5_5 e35_5 27 _ HB5 HS2.out HZ2.out HU2.out ?_
                intro W6 q6 HB6
                have Q6 := qt_grown Q5 q6 bB
                have HA6 := blk_far HA5 q6 (fun e => ne (by rw [e]))
                refine hK _ _ ?_
                clear hK K
                refine gen_frame fun F6 hA => ?_
                have hF : F6 = F5.put none undef := hA
                have hF6 := Lib.hid hF
                have e30_6 : F6.eval (.tmp 30) = Value.slice (some ⟨b, off, none⟩) m c := by rw [hF, ev_none]; exact e30_5
                have e34_6 : F6.eval (.tmp 34) = Value.slice (some ⟨b, off + m * 32, none⟩) (n - m) (c - m) := by rw [hF, ev_none]; exact e34_5
                have e31_6 : F6.eval (.tmp 31) = (.agg (u8s r1).toArray) := by rw [hF, ev_none]; exact e31_5
                have e5_6 : F6.eval (.tmp 5) = (.pointer (some ⟨gB, 0, none⟩)) := by rw [hF, ev_none]; exact e5_5
                have e4_6 : F6.eval (.tmp 4) = (.pointer (some ⟨gA, 0, none⟩)) := by rw [hF, ev_none]; exact e4_5
                have e35_6 : F6.eval (.tmp 35) = (.agg (u8s r2).toArray) := by rw [hF, ev_none]; exact e35_5
                have z6 : F6.tmps.size = 41 := by rw [hF, put_size]; exact z5
                clear hF hA
                refine wpAny_done (by kernel_rfl) ?_ _
                rw [hF6.out, hF5.out, hF4.out, hF3.out, hF2.out, hF1.out, hF0.out]
                go_wp2_with fail
                go_meet
                exact ⟨gA, gB, rfl, rfl, HR.out.below Q6, HA6, HB6⟩
              exact AllReady.nil
            exact AllReady.nil
          exact AllReady.nil
        exact AllReady.nil
      exact AllReady.nil
    refine AllReady.cons (o := { dst := some 4, op := Go.Op.alloc 27, type := 0, pos := "sum.go:124", after := #[], guard := none }) rfl (fun K hK => ?_) ?_
    · refine st_alloc (by rfl) 27 (by rfl) _ halloc ?_
      intro gA W1 q1 lA HA1
      have Q1 := Q0.trans q1
      have bA : W0.heap.size ≤ gA := Nat.le_trans Q0.size lA
      refine hK _ _ ?_
      clear hK K
      refine gen_frame fun F1 hA => ?_
      have hF : F1 = F0.put (some 4) (.pointer (some ⟨gA, 0, none⟩)) := hA
      have hF1 := Lib.hid hF
      have e30_1 : F1.eval (.tmp 30) = Value.slice (some ⟨b, off, none⟩) m c := by rw [hF, ev_other (by decide)]; exact e30_0
      have e34_1 : F1.eval (.tmp 34) = Value.slice (some ⟨b, off + m * 32, none⟩) (n - m) (c - m) := by rw [hF, ev_other (by decide)]; exact e34_0
      have e4_1 : F1.eval (.tmp 4) = (.pointer (some ⟨gA, 0, none⟩)) := by rw [hF]; exact ev_same (by rw [z0]; decide)
      have z1 : F1.tmps.size = 41 := by rw [hF, put_size]; exact z0
      clear hF hA
      refine wpAny_ready (rs := [3, 9]) (by kernel_rfl) (by simp) ?_
      refine AllReady.cons (o := { dst := some 31, op := Go.Op.call { callee := Go.Callee.value (Go.Operand.func 14), args := #[Go.Operand.tmp 30], argTypes := #[32] }, type := 27, pos := "sum.go:124", after := #[{ on := 2, ground := Go.Ground.data }], guard := none }) rfl (fun K hK => ?_) ?_
      · refine st_call1 (by rfl) 14 (.tmp 30) 32 (by rfl) (.slice (some ⟨b, off, none⟩) m c) e30_1 (hcf _) _ (Qt W1) (HC1.out _ (HQ1.out.trans Q1)) ?_
        intro W2 q2
        have Q2 := Q1.trans q2
        have HA2 := blk_qt HA1 q2
        refine hK _ _ ?_
        clear hK K
        refine gen_frame fun F2 hA => ?_
        have hF : F2 = F1.put (some 31) (.agg (u8s r1).toArray) := hA
        have hF2 := Lib.hid hF
        have e30_2 : F2.eval (.tmp 30) = Value.slice (some ⟨b, off, none⟩) m c := by rw [hF, ev_other (by decide)]; exact e30_1
        have e34_2 : F2.eval (.tmp 34) = Value.slice (some ⟨b, off + m * 32, none⟩) (n - m) (c - m) := by rw [hF, ev_other (by decide)]; exact e34_1
        have e4_2 : F2.eval (.tmp 4) = (.pointer (some ⟨gA, 0, none⟩)) := by rw [hF, ev_other (by decide)]; exact e4_1
        have e31_2 : F2.eval (.tmp 31) = (.agg (u8s r1).toArray) := by rw [hF]; exact ev_same (by rw [z1]; decide)
        have z2 : F2.tmps.size = 41 := by rw [hF, put_size]; exact z1
        clear hF hA
        refine wpAny_ready (rs := [7, 9]) (by kernel_rfl) (by simp) ?_
        refine AllReady.cons (o := { dst := some 35, op := Go.Op.call { callee := Go.Callee.value (Go.Operand.func 14), args := #[Go.Operand.tmp 34], argTypes := #[32] }, type := 27, pos := "sum.go:124", after := #[{ on := 6, ground := Go.Ground.data }, { on := 3, ground := Go.Ground.chain }], guard := none }) rfl (fun K hK => ?_) ?_
        · refine st_call1 (by rfl) 14 (.tmp 34) 32 (by rfl) (.slice (some ⟨b, off + m * 32, none⟩) (n - m) (c - m)) e34_2 (hcf _) _ (Qt W2) (HC2.out _ (HQ1.out.trans Q2)) ?_
          intro W3 q3
          have Q3 := Q2.trans q3
          have HA3 := blk_qt HA2 q3
          refine hK _ _ ?_
          clear hK K
          refine gen_frame fun F3 hA => ?_
          have hF : F3 = F2.put (some 35) (.agg (u8s r2).toArray) := hA
          have hF3 := Lib.hid hF
          have e30_3 : F3.eval (.tmp 30) = Value.slice (some ⟨b, off, none⟩) m c := by rw [hF, ev_other (by decide)]; exact e30_2
          have e34_3 : F3.eval (.tmp 34) = Value.slice (some ⟨b, off + m * 32, none⟩) (n - m) (c - m) := by rw [hF, ev_other (by decide)]; exact e34_2
          have e4_3 : F3.eval (.tmp 4) = (.pointer (some ⟨gA, 0, none⟩)) := by rw [hF, ev_other (by decide)]; exact e4_2
          have e31_3 : F3.eval (.tmp 31) = (.agg (u8s r1).toArray) := by rw [hF, ev_other (by decide)]; exact e31_2
          have e35_3 : F3.eval (.tmp 35) = (.agg (u8s r2).toArray) := by rw [hF]; exact ev_same (by rw [z2]; decide)
          have z3 : F3.tmps.size = 41 := by rw [hF, put_size]; exact z2
          clear hF hA
          refine wpAny_ready (rs := [9]) (by kernel_rfl) (by simp) ?_
          refine AllReady.cons (o := { dst := some 5, op := Go.Op.alloc 27, type := 0, pos := "sum.go:124", after := #[], guard := none }) rfl (fun K hK => ?_) ?_
          · refine st_alloc (by rfl) 27 (by rfl) _ halloc ?_
            intro gB W4 q4 lB HB4
            have Q4 := Q3.trans q4
            have bB : W0.heap.size ≤ gB := Nat.le_trans Q3.size lB
            have HA4 := blk_qt HA3 q4
            have ne : gA ≠ gB := Nat.ne_of_lt (Nat.lt_of_lt_of_le (blk_lt HA3) lB)
            refine hK _ _ ?_
            clear hK K
            refine gen_frame fun F4 hA => ?_
            have hF : F4 = F3.put (some 5) (.pointer (some ⟨gB, 0, none⟩)) := hA
            have hF4 := Lib.hid hF
            have e30_4 : F4.eval (.tmp 30) = Value.slice (some ⟨b, off, none⟩) m c := by rw [hF, ev_other (by decide)]; exact e30_3
            have e34_4 : F4.eval (.tmp 34) = Value.slice (some ⟨b, off + m * 32, none⟩) (n - m) (c - m) := by rw [hF, ev_other (by decide)]; exact e34_3
            have e4_4 : F4.eval (.tmp 4) = (.pointer (some ⟨gA, 0, none⟩)) := by rw [hF, ev_other (by decide)]; exact e4_3
            have e31_4 : F4.eval (.tmp 31) = (.agg (u8s r1).toArray) := by rw [hF, ev_other (by decide)]; exact e31_3
            have e35_4 : F4.eval (.tmp 35) = (.agg (u8s r2).toArray) := by rw [hF, ev_other (by decide)]; exact e35_3
            have e5_4 : F4.eval (.tmp 5) = (.pointer (some ⟨gB, 0, none⟩)) := by rw [hF]; exact ev_same (by rw [z3]; decide)
            have z4 : F4.tmps.size = 41 := by rw [hF, put_size]; exact z3
            clear hF hA
            refine wpAny_ready (rs := [10]) (by kernel_rfl) (by simp) ?_
            refine AllReady.cons (o := { dst := none, op := Go.Op.store 27 (Go.Operand.tmp 4) (Go.Operand.tmp 31), type := 0, pos := "sum.go:124", after := #[{ on := 8, ground := Go.Ground.data }, { on := 3, ground := Go.Ground.data }, { on := 7, ground := Go.Ground.chain }, { on := 0, ground := Go.Ground.phase }, { on := 1, ground := Go.Ground.phase }, { on := 2, ground := Go.Ground.phase }, { on := 3, ground := Go.Ground.phase }, { on := 4, ground := Go.Ground.textOnly Go.Departure.lateStores }, { on := 5, ground := Go.Ground.textOnly Go.Departure.lateStores }, { on := 6, ground := Go.Ground.textOnly Go.Departure.lateStoresUnsure }, { on := 7, ground := Go.Ground.phase }, { on := 8, ground := Go.Ground.phase }, { on := 9, ground := Go.Ground.phase }], guard := none }) rfl (fun K hK => ?_) ?_
            · refine st_store (by rfl) 27 (.tmp 4) (.tmp 31) (by rfl) gA (u8s r1).toArray e4_4 e31_4 27 _ HA4 HS1.out HZ1.out HU1.out ?_
              intro W5 q5 HA5
              have Q5 := qt_grown Q4 q5 bA
              have HB5 := blk_far HB4 q5 (fun e => ne (by rw [e]))
              refine hK _ _ ?_
              clear hK K
              refine gen_frame fun F5 hA => ?_
              have hF : F5 = F4.put none undef := hA
              have hF5 := Lib.hid hF
              have e30_5 : F5.eval (.tmp 30) = Value.slice (some ⟨b, off, none⟩) m c := by rw [hF, ev_none]; exact e30_4
              have e34_5 : F5.eval (.tmp 34) = Value.slice (some ⟨b, off + m * 32, none⟩) (n - m) (c - m) := by rw [hF, ev_none]; exact e34_4
              have e4_5 : F5.eval (.tmp 4) = (.pointer (some ⟨gA, 0, none⟩)) := by rw [hF, ev_none]; exact e4_4
              have e31_5 : F5.eval (.tmp 31) = (.agg (u8s r1).toArray) := by rw [hF, ev_none]; exact e31_4
              have e35_5 : F5.eval (.tmp 35) = (.agg (u8s r2).toArray) := by rw [hF, ev_none]; exact e35_4
              have e5_5 : F5.eval (.tmp 5) = (.pointer (some ⟨gB, 0, none⟩)) := by rw [hF, ev_none]; exact e5_4
              have z5 : F5.tmps.size = 41 := by rw [hF, put_size]; exact z4
              clear hF hA
              refine wpAny_ready (rs := [11]) (by kernel_rfl) (by simp) ?_
              refine AllReady.cons (o := { dst := none, op := Go.Op.store 27 (Go.Operand.tmp 5) (Go.Operand.tmp 35), type := 0, pos := "sum.go:124", after := #[{ on := 9, ground := Go.Ground.data }, { on := 7, ground := Go.Ground.data }, { on := 10, ground := Go.Ground.chain }, { on := 0, ground := Go.Ground.phase }, { on := 1, ground := Go.Ground.phase }, { on := 2, ground := Go.Ground.phase }, { on := 3, ground := Go.Ground.phase }, { on := 4, ground := Go.Ground.phase }, { on := 5, ground := Go.Ground.phase }, { on := 6, ground := Go.Ground.phase }, { on := 7, ground := Go.Ground.phase }, { on := 8, ground := Go.Ground.phase }, { on := 9, ground := Go.Ground.phase }, { on := 10, ground := Go.Ground.phase }], guard := none }) rfl (fun K hK => ?_) ?_
              · refine st_store (by rfl) 27 (.tmp 5) (.tmp 35) (by rfl) gB (u8s r2).toArray e5_5 e35_5 27 _ HB5 HS2.out HZ2.out HU2.out ?_
                intro W6 q6 HB6
                have Q6 := qt_grown Q5 q6 bB
                have HA6 := blk_far HA5 q6 (fun e => ne (by rw [e]))
                refine hK _ _ ?_
                clear hK K
                refine gen_frame fun F6 hA => ?_
                have hF : F6 = F5.put none undef := hA
                have hF6 := Lib.hid hF
                have e30_6 : F6.eval (.tmp 30) = Value.slice (some ⟨b, off, none⟩) m c := by rw [hF, ev_none]; exact e30_5
                have e34_6 : F6.eval (.tmp 34) = Value.slice (some ⟨b, off + m * 32, none⟩) (n - m) (c - m) := by rw [hF, ev_none]; exact e34_5
                have e4_6 : F6.eval (.tmp 4) = (.pointer (some ⟨gA, 0, none⟩)) := by rw [hF, ev_none]; exact e4_5
                have e31_6 : F6.eval (.tmp 31) = (.agg (u8s r1).toArray) := by rw [hF, ev_none]; exact e31_5
                have e35_6 : F6.eval (.tmp 35) = (.agg (u8s r2).toArray) := by rw [hF, ev_none]; exact e35_5
                have e5_6 : F6.eval (.tmp 5) = (.pointer (some ⟨gB, 0, none⟩)) := by rw [hF, ev_none]; exact e5_5
                have z6 : F6.tmps.size = 41 := by rw [hF, put_size]; exact z5
                clear hF hA
                refine wpAny_done (by kernel_rfl) ?_ _
                rw [hF6.out, hF5.out, hF4.out, hF3.out, hF2.out, hF1.out, hF0.out]
                go_wp2_with fail
                go_meet
                exact ⟨gA, gB, rfl, rfl, HR.out.below Q6, HA6, HB6⟩
              exact AllReady.nil
            exact AllReady.nil
          exact AllReady.nil
        refine AllReady.cons (o := { dst := some 5, op := Go.Op.alloc 27, type := 0, pos := "sum.go:124", after := #[], guard := none }) rfl (fun K hK => ?_) ?_
        · refine st_alloc (by rfl) 27 (by rfl) _ halloc ?_
          intro gB W3 q3 lB HB3
          have Q3 := Q2.trans q3
          have bB : W0.heap.size ≤ gB := Nat.le_trans Q2.size lB
          have HA3 := blk_qt HA2 q3
          have ne : gA ≠ gB := Nat.ne_of_lt (Nat.lt_of_lt_of_le (blk_lt HA2) lB)
          refine hK _ _ ?_
          clear hK K
          refine gen_frame fun F3 hA => ?_
          have hF : F3 = F2.put (some 5) (.pointer (some ⟨gB, 0, none⟩)) := hA
          have hF3 := Lib.hid hF
          have e30_3 : F3.eval (.tmp 30) = Value.slice (some ⟨b, off, none⟩) m c := by rw [hF, ev_other (by decide)]; exact e30_2
          have e34_3 : F3.eval (.tmp 34) = Value.slice (some ⟨b, off + m * 32, none⟩) (n - m) (c - m) := by rw [hF, ev_other (by decide)]; exact e34_2
          have e4_3 : F3.eval (.tmp 4) = (.pointer (some ⟨gA, 0, none⟩)) := by rw [hF, ev_other (by decide)]; exact e4_2
          have e31_3 : F3.eval (.tmp 31) = (.agg (u8s r1).toArray) := by rw [hF, ev_other (by decide)]; exact e31_2
          have e5_3 : F3.eval (.tmp 5) = (.pointer (some ⟨gB, 0, none⟩)) := by rw [hF]; exact ev_same (by rw [z2]; decide)
          have z3 : F3.tmps.size = 41 := by rw [hF, put_size]; exact z2
          clear hF hA
          refine wpAny_ready (rs := [7]) (by kernel_rfl) (by simp) ?_
          refine AllReady.cons (o := { dst := some 35, op := Go.Op.call { callee := Go.Callee.value (Go.Operand.func 14), args := #[Go.Operand.tmp 34], argTypes := #[32] }, type := 27, pos := "sum.go:124", after := #[{ on := 6, ground := Go.Ground.data }, { on := 3, ground := Go.Ground.chain }], guard := none }) rfl (fun K hK => ?_) ?_
          · refine st_call1 (by rfl) 14 (.tmp 34) 32 (by rfl) (.slice (some ⟨b, off + m * 32, none⟩) (n - m) (c - m)) e34_3 (hcf _) _ (Qt W3) (HC2.out _ (HQ1.out.trans Q3)) ?_
            intro W4 q4
            have Q4 := Q3.trans q4
            have HA4 := blk_qt HA3 q4
            have HB4 := blk_qt HB3 q4
            refine hK _ _ ?_
            clear hK K
            refine gen_frame fun F4 hA => ?_
            have hF : F4 = F3.put (some 35) (.agg (u8s r2).toArray) := hA
            have hF4 := Lib.hid hF
            have e30_4 : F4.eval (.tmp 30) = Value.slice (some ⟨b, off, none⟩) m c := by rw [hF, ev_other (by decide)]; exact e30_3
            have e34_4 : F4.eval (.tmp 34) = Value.slice (some ⟨b, off + m * 32, none⟩) (n - m) (c - m) := by rw [hF, ev_other (by decide)]; exact e34_3
            have e4_4 : F4.eval (.tmp 4) = (.pointer (some ⟨gA, 0, none⟩)) := by rw [hF, ev_other (by decide)]; exact e4_3
            have e31_4 : F4.eval (.tmp 31) = (.agg (u8s r1).toArray) := by rw [hF, ev_other (by decide)]; exact e31_3
            have e5_4 : F4.eval (.tmp 5) = (.pointer (some ⟨gB, 0, none⟩)) := by rw [hF, ev_other (by decide)]; exact e5_3
            have e35_4 : F4.eval (.tmp 35) = (.agg (u8s r2).toArray) := by rw [hF]; exact ev_same (by rw [z3]; decide)
            have z4 : F4.tmps.size = 41 := by rw [hF, put_size]; exact z3
            clear hF hA
            refine wpAny_ready (rs := [10]) (by kernel_rfl) (by simp) ?_
            refine AllReady.cons (o := { dst := none, op := Go.Op.store 27 (Go.Operand.tmp 4) (Go.Operand.tmp 31), type := 0, pos := "sum.go:124", after := #[{ on := 8, ground := Go.Ground.data }, { on := 3, ground := Go.Ground.data }, { on := 7, ground := Go.Ground.chain }, { on := 0, ground := Go.Ground.phase }, { on := 1, ground := Go.Ground.phase }, { on := 2, ground := Go.Ground.phase }, { on := 3, ground := Go.Ground.phase }, { on := 4, ground := Go.Ground.textOnly Go.Departure.lateStores }, { on := 5, ground := Go.Ground.textOnly Go.Departure.lateStores }, { on := 6, ground := Go.Ground.textOnly Go.Departure.lateStoresUnsure }, { on := 7, ground := Go.Ground.phase }, { on := 8, ground := Go.Ground.phase }, { on := 9, ground := Go.Ground.phase }], guard := none }) rfl (fun K hK => ?_) ?_
            · refine st_store (by rfl) 27 (.tmp 4) (.tmp 31) (by rfl) gA (u8s r1).toArray e4_4 e31_4 27 _ HA4 HS1.out HZ1.out HU1.out ?_
              intro W5 q5 HA5
              have Q5 := qt_grown Q4 q5 bA
              have HB5 := blk_far HB4 q5 (fun e => ne (by rw [e]))
              refine hK _ _ ?_
              clear hK K
              refine gen_frame fun F5 hA => ?_
              have hF : F5 = F4.put none undef := hA
              have hF5 := Lib.hid hF
              have e30_5 : F5.eval (.tmp 30) = Value.slice (some ⟨b, off, none⟩) m c := by rw [hF, ev_none]; exact e30_4
              have e34_5 : F5.eval (.tmp 34) = Value.slice (some ⟨b, off + m * 32, none⟩) (n - m) (c - m) := by rw [hF, ev_none]; exact e34_4
              have e4_5 : F5.eval (.tmp 4) = (.pointer (some ⟨gA, 0, none⟩)) := by rw [hF, ev_none]; exact e4_4
              have e31_5 : F5.eval (.tmp 31) = (.agg (u8s r1).toArray) := by rw [hF, ev_none]; exact e31_4
              have e5_5 : F5.eval (.tmp 5) = (.pointer (some ⟨gB, 0, none⟩)) := by rw [hF, ev_none]; exact e5_4
              have e35_5 : F5.eval (.tmp 35) = (.agg (u8s r2).toArray) := by rw [hF, ev_none]; exact e35_4
              have z5 : F5.tmps.size = 41 := by rw [hF, put_size]; exact z4
              clear hF hA
              refine wpAny_ready (rs := [11]) (by kernel_rfl) (by simp) ?_
              refine AllReady.cons (o := { dst := none, op := Go.Op.store 27 (Go.Operand.tmp 5) (Go.Operand.tmp 35), type := 0, pos := "sum.go:124", after := #[{ on := 9, ground := Go.Ground.data }, { on := 7, ground := Go.Ground.data }, { on := 10, ground := Go.Ground.chain }, { on := 0, ground := Go.Ground.phase }, { on := 1, ground := Go.Ground.phase }, { on := 2, ground := Go.Ground.phase }, { on := 3, ground := Go.Ground.phase }, { on := 4, ground := Go.Ground.phase }, { on := 5, ground := Go.Ground.phase }, { on := 6, ground := Go.Ground.phase }, { on := 7, ground := Go.Ground.phase }, { on := 8, ground := Go.Ground.phase }, { on := 9, ground := Go.Ground.phase }, { on := 10, ground := Go.Ground.phase }], guard := none }) rfl (fun K hK => ?_) ?_
              · refine st_store (by rfl) 27 (.tmp 5) (.tmp 35) (by rfl) gB (u8s r2).toArray e5_5 e35_5 27 _ HB5 HS2.out HZ2.out HU2.out ?_
                intro W6 q6 HB6
                have Q6 := qt_grown Q5 q6 bB
                have HA6 := blk_far HA5 q6 (fun e => ne (by rw [e]))
                refine hK _ _ ?_
                clear hK K
                refine gen_frame fun F6 hA => ?_
                have hF : F6 = F5.put none undef := hA
                have hF6 := Lib.hid hF
                have e30_6 : F6.eval (.tmp 30) = Value.slice (some ⟨b, off, none⟩) m c := by rw [hF, ev_none]; exact e30_5
                have e34_6 : F6.eval (.tmp 34) = Value.slice (some ⟨b, off + m * 32, none⟩) (n - m) (c - m) := by rw [hF, ev_none]; exact e34_5
                have e4_6 : F6.eval (.tmp 4) = (.pointer (some ⟨gA, 0, none⟩)) := by rw [hF, ev_none]; exact e4_5
                have e31_6 : F6.eval (.tmp 31) = (.agg (u8s r1).toArray) := by rw [hF, ev_none]; exact e31_5
                have e5_6 : F6.eval (.tmp 5) = (.pointer (some ⟨gB, 0, none⟩)) := by rw [hF, ev_none]; exact e5_5
                have e35_6 : F6.eval (.tmp 35) = (.agg (u8s r2).toArray) := by rw [hF, ev_none]; exact e35_5
                have z6 : F6.tmps.size = 41 := by rw [hF, put_size]; exact z5
                clear hF hA
                refine wpAny_done (by kernel_rfl) ?_ _
                rw [hF6.out, hF5.out, hF4.out, hF3.out, hF2.out, hF1.out, hF0.out]
                go_wp2_with fail
                go_meet
                exact ⟨gA, gB, rfl, rfl, HR.out.below Q6, HA6, HB6⟩
              exact AllReady.nil
            exact AllReady.nil
          exact AllReady.nil
        exact AllReady.nil
      refine AllReady.cons (o := { dst := some 5, op := Go.Op.alloc 27, type := 0, pos := "sum.go:124", after := #[], guard := none }) rfl (fun K hK => ?_) ?_
      · refine st_alloc (by rfl) 27 (by rfl) _ halloc ?_
        intro gB W2 q2 lB HB2
        have Q2 := Q1.trans q2
        have bB : W0.heap.size ≤ gB := Nat.le_trans Q1.size lB
        have HA2 := blk_qt HA1 q2
        have ne : gA ≠ gB := Nat.ne_of_lt (Nat.lt_of_lt_of_le (blk_lt HA1) lB)
        refine hK _ _ ?_
        clear hK K
        refine gen_frame fun F2 hA => ?_
        have hF : F2 = F1.put (some 5) (.pointer (some ⟨gB, 0, none⟩)) := hA
        have hF2 := Lib.hid hF
        have e30_2 : F2.eval (.tmp 30) = Value.slice (some ⟨b, off, none⟩) m c := by rw [hF, ev_other (by decide)]; exact e30_1
        have e34_2 : F2.eval (.tmp 34) = Value.slice (some ⟨b, off + m * 32, none⟩) (n - m) (c - m) := by rw [hF, ev_other (by decide)]; exact e34_1
        have e4_2 : F2.eval (.tmp 4) = (.pointer (some ⟨gA, 0, none⟩)) := by rw [hF, ev_other (by decide)]; exact e4_1
        have e5_2 : F2.eval (.tmp 5) = (.pointer (some ⟨gB, 0, none⟩)) := by rw [hF]; exact ev_same (by rw [z1]; decide)
        have z2 : F2.tmps.size = 41 := by rw [hF, put_size]; exact z1
        clear hF hA
        refine wpAny_ready (rs := [3]) (by kernel_rfl) (by simp) ?_
        refine AllReady.cons (o := { dst := some 31, op := Go.Op.call { callee := Go.Callee.value (Go.Operand.func 14), args := #[Go.Operand.tmp 30], argTypes := #[32] }, type := 27, pos := "sum.go:124", after := #[{ on := 2, ground := Go.Ground.data }], guard := none }) rfl (fun K hK => ?_) ?_
        · refine st_call1 (by rfl) 14 (.tmp 30) 32 (by rfl) (.slice (some ⟨b, off, none⟩) m c) e30_2 (hcf _) _ (Qt W2) (HC1.out _ (HQ1.out.trans Q2)) ?_
          intro W3 q3
          have Q3 := Q2.trans q3
          have HA3 := blk_qt HA2 q3
          have HB3 := blk_qt HB2 q3
          refine hK _ _ ?_
          clear hK K
          refine gen_frame fun F3 hA => ?_
          have hF : F3 = F2.put (some 31) (.agg (u8s r1).toArray) := hA
          have hF3 := Lib.hid hF
          have e30_3 : F3.eval (.tmp 30) = Value.slice (some ⟨b, off, none⟩) m c := by rw [hF, ev_other (by decide)]; exact e30_2
          have e34_3 : F3.eval (.tmp 34) = Value.slice (some ⟨b, off + m * 32, none⟩) (n - m) (c - m) := by rw [hF, ev_other (by decide)]; exact e34_2
          have e4_3 : F3.eval (.tmp 4) = (.pointer (some ⟨gA, 0, none⟩)) := by rw [hF, ev_other (by decide)]; exact e4_2
          have e5_3 : F3.eval (.tmp 5) = (.pointer (some ⟨gB, 0, none⟩)) := by rw [hF, ev_other (by decide)]; exact e5_2
          have e31_3 : F3.eval (.tmp 31) = (.agg (u8s r1).toArray) := by rw [hF]; exact ev_same (by rw [z2]; decide)
          have z3 : F3.tmps.size = 41 := by rw [hF, put_size]; exact z2
          clear hF hA
          refine wpAny_ready (rs := [7]) (by kernel_rfl) (by simp) ?_
          refine AllReady.cons (o := { dst := some 35, op := Go.Op.call { callee := Go.Callee.value (Go.Operand.func 14), args := #[Go.Operand.tmp 34], argTypes := #[32] }, type := 27, pos := "sum.go:124", after := #[{ on := 6, ground := Go.Ground.data }, { on := 3, ground := Go.Ground.chain }], guard := none }) rfl (fun K hK => ?_) ?_
          · refine st_call1 (by rfl) 14 (.tmp 34) 32 (by rfl) (.slice (some ⟨b, off + m * 32, none⟩) (n - m) (c - m)) e34_3 (hcf _) _ (Qt W3) (HC2.out _ (HQ1.out.trans Q3)) ?_
            intro W4 q4
            have Q4 := Q3.trans q4
            have HA4 := blk_qt HA3 q4
            have HB4 := blk_qt HB3 q4
            refine hK _ _ ?_
            clear hK K
            refine gen_frame fun F4 hA => ?_
            have hF : F4 = F3.put (some 35) (.agg (u8s r2).toArray) := hA
            have hF4 := Lib.hid hF
            have e30_4 : F4.eval (.tmp 30) = Value.slice (some ⟨b, off, none⟩) m c := by rw [hF, ev_other (by decide)]; exact e30_3
            have e34_4 : F4.eval (.tmp 34) = Value.slice (some ⟨b, off + m * 32, none⟩) (n - m) (c - m) := by rw [hF, ev_other (by decide)]; exact e34_3
            have e4_4 : F4.eval (.tmp 4) = (.pointer (some ⟨gA, 0, none⟩)) := by rw [hF, ev_other (by decide)]; exact e4_3
            have e5_4 : F4.eval (.tmp 5) = (.pointer (some ⟨gB, 0, none⟩)) := by rw [hF, ev_other (by decide)]; exact e5_3
            have e31_4 : F4.eval (.tmp 31) = (.agg (u8s r1).toArray) := by rw [hF, ev_other (by decide)]; exact e31_3
            have e35_4 : F4.eval (.tmp 35) = (.agg (u8s r2).toArray) := by rw [hF]; exact ev_same (by rw [z3]; decide)
            have z4 : F4.tmps.size = 41 := by rw [hF, put_size]; exact z3
            clear hF hA
            refine wpAny_ready (rs := [10]) (by kernel_rfl) (by simp) ?_
            refine AllReady.cons (o := { dst := none, op := Go.Op.store 27 (Go.Operand.tmp 4) (Go.Operand.tmp 31), type := 0, pos := "sum.go:124", after := #[{ on := 8, ground := Go.Ground.data }, { on := 3, ground := Go.Ground.data }, { on := 7, ground := Go.Ground.chain }, { on := 0, ground := Go.Ground.phase }, { on := 1, ground := Go.Ground.phase }, { on := 2, ground := Go.Ground.phase }, { on := 3, ground := Go.Ground.phase }, { on := 4, ground := Go.Ground.textOnly Go.Departure.lateStores }, { on := 5, ground := Go.Ground.textOnly Go.Departure.lateStores }, { on := 6, ground := Go.Ground.textOnly Go.Departure.lateStoresUnsure }, { on := 7, ground := Go.Ground.phase }, { on := 8, ground := Go.Ground.phase }, { on := 9, ground := Go.Ground.phase }], guard := none }) rfl (fun K hK => ?_) ?_
            · refine st_store (by rfl) 27 (.tmp 4) (.tmp 31) (by rfl) gA (u8s r1).toArray e4_4 e31_4 27 _ HA4 HS1.out HZ1.out HU1.out ?_
              intro W5 q5 HA5
              have Q5 := qt_grown Q4 q5 bA
              have HB5 := blk_far HB4 q5 (fun e => ne (by rw [e]))
              refine hK _ _ ?_
              clear hK K
              refine gen_frame fun F5 hA => ?_
              have hF : F5 = F4.put none undef := hA
              have hF5 := Lib.hid hF
              have e30_5 : F5.eval (.tmp 30) = Value.slice (some ⟨b, off, none⟩) m c := by rw [hF, ev_none]; exact e30_4
              have e34_5 : F5.eval (.tmp 34) = Value.slice (some ⟨b, off + m * 32, none⟩) (n - m) (c - m) := by rw [hF, ev_none]; exact e34_4
              have e4_5 : F5.eval (.tmp 4) = (.pointer (some ⟨gA, 0, none⟩)) := by rw [hF, ev_none]; exact e4_4
              have e5_5 : F5.eval (.tmp 5) = (.pointer (some ⟨gB, 0, none⟩)) := by rw [hF, ev_none]; exact e5_4
              have e31_5 : F5.eval (.tmp 31) = (.agg (u8s r1).toArray) := by rw [hF, ev_none]; exact e31_4
              have e35_5 : F5.eval (.tmp 35) = (.agg (u8s r2).toArray) := by rw [hF, ev_none]; exact e35_4
              have z5 : F5.tmps.size = 41 := by rw [hF, put_size]; exact z4
              clear hF hA
              refine wpAny_ready (rs := [11]) (by kernel_rfl) (by simp) ?_
              refine AllReady.cons (o := { dst := none, op := Go.Op.store 27 (Go.Operand.tmp 5) (Go.Operand.tmp 35), type := 0, pos := "sum.go:124", after := #[{ on := 9, ground := Go.Ground.data }, { on := 7, ground := Go.Ground.data }, { on := 10, ground := Go.Ground.chain }, { on := 0, ground := Go.Ground.phase }, { on := 1, ground := Go.Ground.phase }, { on := 2, ground := Go.Ground.phase }, { on := 3, ground := Go.Ground.phase }, { on := 4, ground := Go.Ground.phase }, { on := 5, ground := Go.Ground.phase }, { on := 6, ground := Go.Ground.phase }, { on := 7, ground := Go.Ground.phase }, { on := 8, ground := Go.Ground.phase }, { on := 9, ground := Go.Ground.phase }, { on := 10, ground := Go.Ground.phase }], guard := none }) rfl (fun K hK => ?_) ?_
              · refine st_store (by rfl) 27 (.tmp 5) (.tmp 35) (by rfl) gB (u8s r2).toArray e5_5 e35_5 27 _ HB5 HS2.out HZ2.out HU2.out ?_
                intro W6 q6 HB6
                have Q6 := qt_grown Q5 q6 bB
                have HA6 := blk_far HA5 q6 (fun e => ne (by rw [e]))
                refine hK _ _ ?_
                clear hK K
                refine gen_frame fun F6 hA => ?_
                have hF : F6 = F5.put none undef := hA
                have hF6 := Lib.hid hF
                have e30_6 : F6.eval (.tmp 30) = Value.slice (some ⟨b, off, none⟩) m c := by rw [hF, ev_none]; exact e30_5
                have e34_6 : F6.eval (.tmp 34) = Value.slice (some ⟨b, off + m * 32, none⟩) (n - m) (c - m) := by rw [hF, ev_none]; exact e34_5
                have e4_6 : F6.eval (.tmp 4) = (.pointer (some ⟨gA, 0, none⟩)) := by rw [hF, ev_none]; exact e4_5
                have e5_6 : F6.eval (.tmp 5) = (.pointer (some ⟨gB, 0, none⟩)) := by rw [hF, ev_none]; exact e5_5
                have e31_6 : F6.eval (.tmp 31) = (.agg (u8s r1).toArray) := by rw [hF, ev_none]; exact e31_5
                have e35_6 : F6.eval (.tmp 35) = (.agg (u8s r2).toArray) := by rw [hF, ev_none]; exact e35_5
                have z6 : F6.tmps.size = 41 := by rw [hF, put_size]; exact z5
                clear hF hA
                refine wpAny_done (by kernel_rfl) ?_ _
                rw [hF6.out, hF5.out, hF4.out, hF3.out, hF2.out, hF1.out, hF0.out]
                go_wp2_with fail
                go_meet
                exact ⟨gA, gB, rfl, rfl, HR.out.below Q6, HA6, HB6⟩
              exact AllReady.nil
            exact AllReady.nil
          exact AllReady.nil
        exact AllReady.nil
      exact AllReady.nil
    refine AllReady.cons (o := { dst := some 5, op := Go.Op.alloc 27, type := 0, pos := "sum.go:124", after := #[], guard := none }) rfl (fun K hK => ?_) ?_
    · refine st_alloc (by rfl) 27 (by rfl) _ halloc ?_
      intro gB W1 q1 lB HB1
      have Q1 := Q0.trans q1
      have bB : W0.heap.size ≤ gB := Nat.le_trans Q0.size lB
      refine hK _ _ ?_
      clear hK K
      refine gen_frame fun F1 hA => ?_
      have hF : F1 = F0.put (some 5) (.pointer (some ⟨gB, 0, none⟩)) := hA
      have hF1 := Lib.hid hF
      have e30_1 : F1.eval (.tmp 30) = Value.slice (some ⟨b, off, none⟩) m c := by rw [hF, ev_other (by decide)]; exact e30_0
      have e34_1 : F1.eval (.tmp 34) = Value.slice (some ⟨b, off + m * 32, none⟩) (n - m) (c - m) := by rw [hF, ev_other (by decide)]; exact e34_0
      have e5_1 : F1.eval (.tmp 5) = (.pointer (some ⟨gB, 0, none⟩)) := by rw [hF]; exact ev_same (by rw [z0]; decide)
      have z1 : F1.tmps.size = 41 := by rw [hF, put_size]; exact z0
      clear hF hA
      refine wpAny_ready (rs := [3, 8]) (by kernel_rfl) (by simp) ?_
      refine AllReady.cons (o := { dst := some 31, op := Go.Op.call { callee := Go.Callee.value (Go.Operand.func 14), args := #[Go.Operand.tmp 30], argTypes := #[32] }, type := 27, pos := "sum.go:124", after := #[{ on := 2, ground := Go.Ground.data }], guard := none }) rfl (fun K hK => ?_) ?_
      · refine st_call1 (by rfl) 14 (.tmp 30) 32 (by rfl) (.slice (some ⟨b, off, none⟩) m c) e30_1 (hcf _) _ (Qt W1) (HC1.out _ (HQ1.out.trans Q1)) ?_
        intro W2 q2
        have Q2 := Q1.trans q2
        have HB2 := blk_qt HB1 q2
        refine hK _ _ ?_
        clear hK K
        refine gen_frame fun F2 hA => ?_
        have hF : F2 = F1.put (some 31) (.agg (u8s r1).toArray) := hA
        have hF2 := Lib.hid hF
        have e30_2 : F2.eval (.tmp 30) = Value.slice (some ⟨b, off, none⟩) m c := by rw [hF, ev_other (by decide)]; exact e30_1
        have e34_2 : F2.eval (.tmp 34) = Value.slice (some ⟨b, off + m * 32, none⟩) (n - m) (c - m) := by rw [hF, ev_other (by decide)]; exact e34_1
        have e5_2 : F2.eval (.tmp 5) = (.pointer (some ⟨gB, 0, none⟩)) := by rw [hF, ev_other (by decide)]; exact e5_1
        have e31_2 : F2.eval (.tmp 31) = (.agg (u8s r1).toArray) := by rw [hF]; exact ev_same (by rw [z1]; decide)
        have z2 : F2.tmps.size = 41 := by rw [hF, put_size]; exact z1
        clear hF hA
        refine wpAny_ready (rs := [7, 8]) (by kernel_rfl) (by simp) ?_
        refine AllReady.cons (o := { dst := some 35, op := Go.Op.call { callee := Go.Callee.value (Go.Operand.func 14), args := #[Go.Operand.tmp 34], argTypes := #[32] }, type := 27, pos := "sum.go:124", after := #[{ on := 6, ground := Go.Ground.data }, { on := 3, ground := Go.Ground.chain }], guard := none }) rfl (fun K hK => ?_) ?_
        · refine st_call1 (by rfl) 14 (.tmp 34) 32 (by rfl) (.slice (some ⟨b, off + m * 32, none⟩) (n - m) (c - m)) e34_2 (hcf _) _ (Qt W2) (HC2.out _ (HQ1.out.trans Q2)) ?_
          intro W3 q3
          have Q3 := Q2.trans q3
          have HB3 := blk_qt HB2 q3
          refine hK _ _ ?_
          clear hK K
          refine gen_frame fun F3 hA => ?_
          have hF : F3 = F2.put (some 35) (.agg (u8s r2).toArray) := hA
          have hF3 := Lib.hid hF
          have e30_3 : F3.eval (.tmp 30) = Value.slice (some ⟨b, off, none⟩) m c := by rw [hF, ev_other (by decide)]; exact e30_2
          have e34_3 : F3.eval (.tmp 34) = Value.slice (some ⟨b, off + m * 32, none⟩) (n - m) (c - m) := by rw [hF, ev_other (by decide)]; exact e34_2
          have e5_3 : F3.eval (.tmp 5) = (.pointer (some ⟨gB, 0, none⟩)) := by rw [hF, ev_other (by decide)]; exact e5_2
          have e31_3 : F3.eval (.tmp 31) = (.agg (u8s r1).toArray) := by rw [hF, ev_other (by decide)]; exact e31_2
          have e35_3 : F3.eval (.tmp 35) = (.agg (u8s r2).toArray) := by rw [hF]; exact ev_same (by rw [z2]; decide)
          have z3 : F3.tmps.size = 41 := by rw [hF, put_size]; exact z2
          clear hF hA
          refine wpAny_ready (rs := [8]) (by kernel_rfl) (by simp) ?_
          refine AllReady.cons (o := { dst := some 4, op := Go.Op.alloc 27, type := 0, pos := "sum.go:124", after := #[], guard := none }) rfl (fun K hK => ?_) ?_
          · refine st_alloc (by rfl) 27 (by rfl) _ halloc ?_
            intro gA W4 q4 lA HA4
            have Q4 := Q3.trans q4
            have bA : W0.heap.size ≤ gA := Nat.le_trans Q3.size lA
            have HB4 := blk_qt HB3 q4
            have ne : gB ≠ gA := Nat.ne_of_lt (Nat.lt_of_lt_of_le (blk_lt HB3) lA)
            refine hK _ _ ?_
            clear hK K
            refine gen_frame fun F4 hA => ?_
            have hF : F4 = F3.put (some 4) (.pointer (some ⟨gA, 0, none⟩)) := hA
            have hF4 := Lib.hid hF
            have e30_4 : F4.eval (.tmp 30) = Value.slice (some ⟨b, off, none⟩) m c := by rw [hF, ev_other (by decide)]; exact e30_3
            have e34_4 : F4.eval (.tmp 34) = Value.slice (some ⟨b, off + m * 32, none⟩) (n - m) (c - m) := by rw [hF, ev_other (by decide)]; exact e34_3
            have e5_4 : F4.eval (.tmp 5) = (.pointer (some ⟨gB, 0, none⟩)) := by rw [hF, ev_other (by decide)]; exact e5_3
            have e31_4 : F4.eval (.tmp 31) = (.agg (u8s r1).toArray) := by rw [hF, ev_other (by decide)]; exact e31_3
            have e35_4 : F4.eval (.tmp 35) = (.agg (u8s r2).toArray) := by rw [hF, ev_other (by decide)]; exact e35_3
            have e4_4 : F4.eval (.tmp 4) = (.pointer (some ⟨gA, 0, none⟩)) := by rw [hF]; exact ev_same (by rw [z3]; decide)
            have z4 : F4.tmps.size = 41 := by rw [hF, put_size]; exact z3
            clear hF hA
            refine wpAny_ready (rs := [10]) (by kernel_rfl) (by simp) ?_
            refine AllReady.cons (o := { dst := none, op := Go.Op.store 27 (Go.Operand.tmp 4) (Go.Operand.tmp 31), type := 0, pos := "sum.go:124", after := #[{ on := 8, ground := Go.Ground.data }, { on := 3, ground := Go.Ground.data }, { on := 7, ground := Go.Ground.chain }, { on := 0, ground := Go.Ground.phase }, { on := 1, ground := Go.Ground.phase }, { on := 2, ground := Go.Ground.phase }, { on := 3, ground := Go.Ground.phase }, { on := 4, ground := Go.Ground.textOnly Go.Departure.lateStores }, { on := 5, ground := Go.Ground.textOnly Go.Departure.lateStores }, { on := 6, ground := Go.Ground.textOnly Go.Departure.lateStoresUnsure }, { on := 7, ground := Go.Ground.phase }, { on := 8, ground := Go.Ground.phase }, { on := 9, ground := Go.Ground.phase }], guard := none }) rfl (fun K hK => ?_) ?_
            · refine st_store (by rfl) 27 (.tmp 4) (.tmp 31) (by rfl) gA (u8s r1).toArray e4_4 e31_4 27 _ HA4 HS1.out HZ1.out HU1.out ?_
              intro W5 q5 HA5
              have Q5 := qt_grown Q4 q5 bA
              have HB5 := blk_far HB4 q5 (fun e => ne (by rw [e]))
              refine hK _ _ ?_
              clear hK K
              refine gen_frame fun F5 hA => ?_
              have hF : F5 = F4.put none undef := hA
              have hF5 := Lib.hid hF
              have e30_5 : F5.eval (.tmp 30) = Value.slice (some ⟨b, off, none⟩) m c := by rw [hF, ev_none]; exact e30_4
              have e34_5 : F5.eval (.tmp 34) = Value.slice (some ⟨b, off + m * 32, none⟩) (n - m) (c - m) := by rw [hF, ev_none]; exact e34_4
              have e5_5 : F5.eval (.tmp 5) = (.pointer (some ⟨gB, 0, none⟩)) := by rw [hF, ev_none]; exact e5_4
              have e31_5 : F5.eval (.tmp 31) = (.agg (u8s r1).toArray) := by rw [hF, ev_none]; exact e31_4
              have e35_5 : F5.eval (.tmp 35) = (.agg (u8s r2).toArray) := by rw [hF, ev_none]; exact e35_4
              have e4_5 : F5.eval (.tmp 4) = (.pointer (some ⟨gA, 0, none⟩)) := by rw [hF, ev_none]; exact e4_4
              have z5 : F5.tmps.size = 41 := by rw [hF, put_size]; exact z4
              clear hF hA
              refine wpAny_ready (rs := [11]) (by kernel_rfl) (by simp) ?_
              refine AllReady.cons (o := { dst := none, op := Go.Op.store 27 (Go.Operand.tmp 5) (Go.Operand.tmp 35), type := 0, pos := "sum.go:124", after := #[{ on := 9, ground := Go.Ground.data }, { on := 7, ground := Go.Ground.data }, { on := 10, ground := Go.Ground.chain }, { on := 0, ground := Go.Ground.phase }, { on := 1, ground := Go.Ground.phase }, { on := 2, ground := Go.Ground.phase }, { on := 3, ground := Go.Ground.phase }, { on := 4, ground := Go.Ground.phase }, { on := 5, ground := Go.Ground.phase }, { on := 6, ground := Go.Ground.phase }, { on := 7, ground := Go.Ground.phase }, { on := 8, ground := Go.Ground.phase }, { on := 9, ground := Go.Ground.phase }, { on := 10, ground := Go.Ground.phase }], guard := none }) rfl (fun K hK => ?_) ?_
              · refine st_store (by rfl) 27 (.tmp 5) (.tmp 35) (by rfl) gB (u8s r2).toArray e5_5 e35_5 27 _ HB5 HS2.out HZ2.out HU2.out ?_
                intro W6 q6 HB6
                have Q6 := qt_grown Q5 q6 bB
                have HA6 := blk_far HA5 q6 (fun e => ne (by rw [e]))
                refine hK _ _ ?_
                clear hK K
                refine gen_frame fun F6 hA => ?_
                have hF : F6 = F5.put none undef := hA
                have hF6 := Lib.hid hF
                have e30_6 : F6.eval (.tmp 30) = Value.slice (some ⟨b, off, none⟩) m c := by rw [hF, ev_none]; exact e30_5
                have e34_6 : F6.eval (.tmp 34) = Value.slice (some ⟨b, off + m * 32, none⟩) (n - m) (c - m) := by rw [hF, ev_none]; exact e34_5
                have e5_6 : F6.eval (.tmp 5) = (.pointer (some ⟨gB, 0, none⟩)) := by rw [hF, ev_none]; exact e5_5
                have e31_6 : F6.eval (.tmp 31) = (.agg (u8s r1).toArray) := by rw [hF, ev_none]; exact e31_5
                have e35_6 : F6.eval (.tmp 35) = (.agg (u8s r2).toArray) := by rw [hF, ev_none]; exact e35_5
                have e4_6 : F6.eval (.tmp 4) = (.pointer (some ⟨gA, 0, none⟩)) := by rw [hF, ev_none]; exact e4_5
                have z6 : F6.tmps.size = 41 := by rw [hF, put_size]; exact z5
                clear hF hA
                refine wpAny_done (by kernel_rfl) ?_ _
                rw [hF6.out, hF5.out, hF4.out, hF3.out, hF2.out, hF1.out, hF0.out]
                go_wp2_with fail
                go_meet
                exact ⟨gA, gB, rfl, rfl, HR.out.below Q6, HA6, HB6⟩
              exact AllReady.nil
            exact AllReady.nil
          exact AllReady.nil
        refine AllReady.cons (o := { dst := some 4, op := Go.Op.alloc 27, type := 0, pos := "sum.go:124", after := #[], guard := none }) rfl (fun K hK => ?_) ?_
        · refine st_alloc (by rfl) 27 (by rfl) _ halloc ?_
          intro gA W3 q3 lA HA3
          have Q3 := Q2.trans q3
          have bA : W0.heap.size ≤ gA := Nat.le_trans Q2.size lA
          have HB3 := blk_qt HB2 q3
          have ne : gB ≠ gA := Nat.ne_of_lt (Nat.lt_of_lt_of_le (blk_lt HB2) lA)
          refine hK _ _ ?_
          clear hK K
          refine gen_frame fun F3 hA => ?_
          have hF : F3 = F2.put (some 4) (.pointer (some ⟨gA, 0, none⟩)) := hA
          have hF3 := Lib.hid hF
          have e30_3 : F3.eval (.tmp 30) = Value.slice (some ⟨b, off, none⟩) m c := by rw [hF, ev_other (by decide)]; exact e30_2
          have e34_3 : F3.eval (.tmp 34) = Value.slice (some ⟨b, off + m * 32, none⟩) (n - m) (c - m) := by rw [hF, ev_other (by decide)]; exact e34_2
          have e5_3 : F3.eval (.tmp 5) = (.pointer (some ⟨gB, 0, none⟩)) := by rw [hF, ev_other (by decide)]; exact e5_2
          have e31_3 : F3.eval (.tmp 31) = (.agg (u8s r1).toArray) := by rw [hF, ev_other (by decide)]; exact e31_2
          have e4_3 : F3.eval (.tmp 4) = (.pointer (some ⟨gA, 0, none⟩)) := by rw [hF]; exact ev_same (by rw [z2]; decide)
          have z3 : F3.tmps.size = 41 := by rw [hF, put_size]; exact z2
          clear hF hA
          refine wpAny_ready (rs := [7]) (by kernel_rfl) (by simp) ?_
          refine AllReady.cons (o := { dst := some 35, op := Go.Op.call { callee := Go.Callee.value (Go.Operand.func 14), args := #[Go.Operand.tmp 34], argTypes := #[32] }, type := 27, pos := "sum.go:124", after := #[{ on := 6, ground := Go.Ground.data }, { on := 3, ground := Go.Ground.chain }], guard := none }) rfl (fun K hK => ?_) ?_
          · refine st_call1 (by rfl) 14 (.tmp 34) 32 (by rfl) (.slice (some ⟨b, off + m * 32, none⟩) (n - m) (c - m)) e34_3 (hcf _) _ (Qt W3) (HC2.out _ (HQ1.out.trans Q3)) ?_
            intro W4 q4
            have Q4 := Q3.trans q4
            have HA4 := blk_qt HA3 q4
            have HB4 := blk_qt HB3 q4
            refine hK _ _ ?_
            clear hK K
            refine gen_frame fun F4 hA => ?_
            have hF : F4 = F3.put (some 35) (.agg (u8s r2).toArray) := hA
            have hF4 := Lib.hid hF
            have e30_4 : F4.eval (.tmp 30) = Value.slice (some ⟨b, off, none⟩) m c := by rw [hF, ev_other (by decide)]; exact e30_3
            have e34_4 : F4.eval (.tmp 34) = Value.slice (some ⟨b, off + m * 32, none⟩) (n - m) (c - m) := by rw [hF, ev_other (by decide)]; exact e34_3
            have e5_4 : F4.eval (.tmp 5) = (.pointer (some ⟨gB, 0, none⟩)) := by rw [hF, ev_other (by decide)]; exact e5_3
            have e31_4 : F4.eval (.tmp 31) = (.agg (u8s r1).toArray) := by rw [hF, ev_other (by decide)]; exact e31_3
            have e4_4 : F4.eval (.tmp 4) = (.pointer (some ⟨gA, 0, none⟩)) := by rw [hF, ev_other (by decide)]; exact e4_3
            have e35_4 : F4.eval (.tmp 35) = (.agg (u8s r2).toArray) := by rw [hF]; exact ev_same (by rw [z3]; decide)
            have z4 : F4.tmps.size = 41 := by rw [hF, put_size]; exact z3
            clear hF hA
            refine wpAny_ready (rs := [10]) (by kernel_rfl) (by simp) ?_
            refine AllReady.cons (o := { dst := none, op := Go.Op.store 27 (Go.Operand.tmp 4) (Go.Operand.tmp 31), type := 0, pos := "sum.go:124", after := #[{ on := 8, ground := Go.Ground.data }, { on := 3, ground := Go.Ground.data }, { on := 7, ground := Go.Ground.chain }, { on := 0, ground := Go.Ground.phase }, { on := 1, ground := Go.Ground.phase }, { on := 2, ground := Go.Ground.phase }, { on := 3, ground := Go.Ground.phase }, { on := 4, ground := Go.Ground.textOnly Go.Departure.lateStores }, { on := 5, ground := Go.Ground.textOnly Go.Departure.lateStores }, { on := 6, ground := Go.Ground.textOnly Go.Departure.lateStoresUnsure }, { on := 7, ground := Go.Ground.phase }, { on := 8, ground := Go.Ground.phase }, { on := 9, ground := Go.Ground.phase }], guard := none }) rfl (fun K hK => ?_) ?_
            · refine st_store (by rfl) 27 (.tmp 4) (.tmp 31) (by rfl) gA (u8s r1).toArray e4_4 e31_4 27 _ HA4 HS1.out HZ1.out HU1.out ?_
              intro W5 q5 HA5
              have Q5 := qt_grown Q4 q5 bA
              have HB5 := blk_far HB4 q5 (fun e => ne (by rw [e]))
              refine hK _ _ ?_
              clear hK K
              refine gen_frame fun F5 hA => ?_
              have hF : F5 = F4.put none undef := hA
              have hF5 := Lib.hid hF
              have e30_5 : F5.eval (.tmp 30) = Value.slice (some ⟨b, off, none⟩) m c := by rw [hF, ev_none]; exact e30_4
              have e34_5 : F5.eval (.tmp 34) = Value.slice (some ⟨b, off + m * 32, none⟩) (n - m) (c - m) := by rw [hF, ev_none]; exact e34_4
              have e5_5 : F5.eval (.tmp 5) = (.pointer (some ⟨gB, 0, none⟩)) := by rw [hF, ev_none]; exact e5_4
              have e31_5 : F5.eval (.tmp 31) = (.agg (u8s r1).toArray) := by rw [hF, ev_none]; exact e31_4
              have e4_5 : F5.eval (.tmp 4) = (.pointer (some ⟨gA, 0, none⟩)) := by rw [hF, ev_none]; exact e4_4
              have e35_5 : F5.eval (.tmp 35) = (.agg (u8s r2).toArray) := by rw [hF, ev_none]; exact e35_4
              have z5 : F5.tmps.size = 41 := by rw [hF, put_size]; exact z4
              clear hF hA
              refine wpAny_ready (rs := [11]) (by kernel_rfl) (by simp) ?_
              refine AllReady.cons (o := { dst := none, op := Go.Op.store 27 (Go.Operand.tmp 5) (Go.Operand.tmp 35), type := 0, pos := "sum.go:124", after := #[{ on := 9, ground := Go.Ground.data }, { on := 7, ground := Go.Ground.data }, { on := 10, ground := Go.Ground.chain }, { on := 0, ground := Go.Ground.phase }, { on := 1, ground := Go.Ground.phase }, { on := 2, ground := Go.Ground.phase }, { on := 3, ground := Go.Ground.phase }, { on := 4, ground := Go.Ground.phase }, { on := 5, ground := Go.Ground.phase }, { on := 6, ground := Go.Ground.phase }, { on := 7, ground := Go.Ground.phase }, { on := 8, ground := Go.Ground.phase }, { on := 9, ground := Go.Ground.phase }, { on := 10, ground := Go.Ground.phase }], guard := none }) rfl (fun K hK => ?_) ?_
              · refine st_store (by rfl) 27 (.tmp 5) (.tmp 35) (by rfl) gB (u8s r2).toArray e5_5 e35_5 27 _ HB5 HS2.out HZ2.out HU2.out ?_
                intro W6 q6 HB6
                have Q6 := qt_grown Q5 q6 bB
                have HA6 := blk_far HA5 q6 (fun e => ne (by rw [e]))
                refine hK _ _ ?_
                clear hK K
                refine gen_frame fun F6 hA => ?_
                have hF : F6 = F5.put none undef := hA
                have hF6 := Lib.hid hF
                have e30_6 : F6.eval (.tmp 30) = Value.slice (some ⟨b, off, none⟩) m c := by rw [hF, ev_none]; exact e30_5
                have e34_6 : F6.eval (.tmp 34) = Value.slice (some ⟨b, off + m * 32, none⟩) (n - m) (c - m) := by rw [hF, ev_none]; exact e34_5
                have e5_6 : F6.eval (.tmp 5) = (.pointer (some ⟨gB, 0, none⟩)) := by rw [hF, ev_none]; exact e5_5
                have e31_6 : F6.eval (.tmp 31) = (.agg (u8s r1).toArray) := by rw [hF, ev_none]; exact e31_5
                have e4_6 : F6.eval (.tmp 4) = (.pointer (some ⟨gA, 0, none⟩)) := by rw [hF, ev_none]; exact e4_5
                have e35_6 : F6.eval (.tmp 35) = (.agg (u8s r2).toArray) := by rw [hF, ev_none]; exact e35_5
                have z6 : F6.tmps.size = 41 := by rw [hF, put_size]; exact z5
                clear hF hA
                refine wpAny_done (by kernel_rfl) ?_ _
                rw [hF6.out, hF5.out, hF4.out, hF3.out, hF2.out, hF1.out, hF0.out]
                go_wp2_with fail
                go_meet
                exact ⟨gA, gB, rfl, rfl, HR.out.below Q6, HA6, HB6⟩
              exact AllReady.nil
            exact AllReady.nil
          exact AllReady.nil
        exact AllReady.nil
      refine AllReady.cons (o := { dst := some 4, op := Go.Op.alloc 27, type := 0, pos := "sum.go:124", after := #[], guard := none }) rfl (fun K hK => ?_) ?_
      · refine st_alloc (by rfl) 27 (by rfl) _ halloc ?_
        intro gA W2 q2 lA HA2
        have Q2 := Q1.trans q2
        have bA : W0.heap.size ≤ gA := Nat.le_trans Q1.size lA
        have HB2 := blk_qt HB1 q2
        have ne : gB ≠ gA := Nat.ne_of_lt (Nat.lt_of_lt_of_le (blk_lt HB1) lA)
        refine hK _ _ ?_
        clear hK K
        refine gen_frame fun F2 hA => ?_
        have hF : F2 = F1.put (some 4) (.pointer (some ⟨gA, 0, none⟩)) := hA
        have hF2 := Lib.hid hF
        have e30_2 : F2.eval (.tmp 30) = Value.slice (some ⟨b, off, none⟩) m c := by rw [hF, ev_other (by decide)]; exact e30_1
        have e34_2 : F2.eval (.tmp 34) = Value.slice (some ⟨b, off + m * 32, none⟩) (n - m) (c - m) := by rw [hF, ev_other (by decide)]; exact e34_1
        have e5_2 : F2.eval (.tmp 5) = (.pointer (some ⟨gB, 0, none⟩)) := by rw [hF, ev_other (by decide)]; exact e5_1
        have e4_2 : F2.eval (.tmp 4) = (.pointer (some ⟨gA, 0, none⟩)) := by rw [hF]; exact ev_same (by rw [z1]; decide)
        have z2 : F2.tmps.size = 41 := by rw [hF, put_size]; exact z1
        clear hF hA
        refine wpAny_ready (rs := [3]) (by kernel_rfl) (by simp) ?_
        refine AllReady.cons (o := { dst := some 31, op := Go.Op.call { callee := Go.Callee.value (Go.Operand.func 14), args := #[Go.Operand.tmp 30], argTypes := #[32] }, type := 27, pos := "sum.go:124", after := #[{ on := 2, ground := Go.Ground.data }], guard := none }) rfl (fun K hK => ?_) ?_
        · refine st_call1 (by rfl) 14 (.tmp 30) 32 (by rfl) (.slice (some ⟨b, off, none⟩) m c) e30_2 (hcf _) _ (Qt W2) (HC1.out _ (HQ1.out.trans Q2)) ?_
          intro W3 q3
          have Q3 := Q2.trans q3
          have HA3 := blk_qt HA2 q3
          have HB3 := blk_qt HB2 q3
          refine hK _ _ ?_
          clear hK K
          refine gen_frame fun F3 hA => ?_
          have hF : F3 = F2.put (some 31) (.agg (u8s r1).toArray) := hA
          have hF3 := Lib.hid hF
          have e30_3 : F3.eval (.tmp 30) = Value.slice (some ⟨b, off, none⟩) m c := by rw [hF, ev_other (by decide)]; exact e30_2
          have e34_3 : F3.eval (.tmp 34) = Value.slice (some ⟨b, off + m * 32, none⟩) (n - m) (c - m) := by rw [hF, ev_other (by decide)]; exact e34_2
          have e5_3 : F3.eval (.tmp 5) = (.pointer (some ⟨gB, 0, none⟩)) := by rw [hF, ev_other (by decide)]; exact e5_2
          have e4_3 : F3.eval (.tmp 4) = (.pointer (some ⟨gA, 0, none⟩)) := by rw [hF, ev_other (by decide)]; exact e4_2
          have e31_3 : F3.eval (.tmp 31) = (.agg (u8s r1).toArray) := by rw [hF]; exact ev_same (by rw [z2]; decide)
          have z3 : F3.tmps.size = 41 := by rw [hF, put_size]; exact z2
          clear hF hA
          refine wpAny_ready (rs := [7]) (by kernel_rfl) (by simp) ?_
          refine AllReady.cons (o := { dst := some 35, op := Go.Op.call { callee := Go.Callee.value (Go.Operand.func 14), args := #[Go.Operand.tmp 34], argTypes := #[32] }, type := 27, pos := "sum.go:124", after := #[{ on := 6, ground := Go.Ground.data }, { on := 3, ground := Go.Ground.chain }], guard := none }) rfl (fun K hK => ?_) ?_
          · refine st_call1 (by rfl) 14 (.tmp 34) 32 (by rfl) (.slice (some ⟨b, off + m * 32, none⟩) (n - m) (c - m)) e34_3 (hcf _) _ (Qt W3) (HC2.out _ (HQ1.out.trans Q3)) ?_
            intro W4 q4
            have Q4 := Q3.trans q4
            have HA4 := blk_qt HA3 q4
            have HB4 := blk_qt HB3 q4
            refine hK _ _ ?_
            clear hK K
            refine gen_frame fun F4 hA => ?_
            have hF : F4 = F3.put (some 35) (.agg (u8s r2).toArray) := hA
            have hF4 := Lib.hid hF
            have e30_4 : F4.eval (.tmp 30) = Value.slice (some ⟨b, off, none⟩) m c := by rw [hF, ev_other (by decide)]; exact e30_3
            have e34_4 : F4.eval (.tmp 34) = Value.slice (some ⟨b, off + m * 32, none⟩) (n - m) (c - m) := by rw [hF, ev_other (by decide)]; exact e34_3
            have e5_4 : F4.eval (.tmp 5) = (.pointer (some ⟨gB, 0, none⟩)) := by rw [hF, ev_other (by decide)]; exact e5_3
            have e4_4 : F4.eval (.tmp 4) = (.pointer (some ⟨gA, 0, none⟩)) := by rw [hF, ev_other (by decide)]; exact e4_3
            have e31_4 : F4.eval (.tmp 31) = (.agg (u8s r1).toArray) := by rw [hF, ev_other (by decide)]; exact e31_3
            have e35_4 : F4.eval (.tmp 35) = (.agg (u8s r2).toArray) := by rw [hF]; exact ev_same (by rw [z3]; decide)
            have z4 : F4.tmps.size = 41 := by rw [hF, put_size]; exact z3
            clear hF hA
            refine wpAny_ready (rs := [10]) (by kernel_rfl) (by simp) ?_
            refine AllReady.cons (o := { dst := none, op := Go.Op.store 27 (Go.Operand.tmp 4) (Go.Operand.tmp 31), type := 0, pos := "sum.go:124", after := #[{ on := 8, ground := Go.Ground.data }, { on := 3, ground := Go.Ground.data }, { on := 7, ground := Go.Ground.chain }, { on := 0, ground := Go.Ground.phase }, { on := 1, ground := Go.Ground.phase }, { on := 2, ground := Go.Ground.phase }, { on := 3, ground := Go.Ground.phase }, { on := 4, ground := Go.Ground.textOnly Go.Departure.lateStores }, { on := 5, ground := Go.Ground.textOnly Go.Departure.lateStores }, { on := 6, ground := Go.Ground.textOnly Go.Departure.lateStoresUnsure }, { on := 7, ground := Go.Ground.phase }, { on := 8, ground := Go.Ground.phase }, { on := 9, ground := Go.Ground.phase }], guard := none }) rfl (fun K hK => ?_) ?_
            · refine st_store (by rfl) 27 (.tmp 4) (.tmp 31) (by rfl) gA (u8s r1).toArray e4_4 e31_4 27 _ HA4 HS1.out HZ1.out HU1.out ?_
              intro W5 q5 HA5
              have Q5 := qt_grown Q4 q5 bA
              have HB5 := blk_far HB4 q5 (fun e => ne (by rw [e]))
              refine hK _ _ ?_
              clear hK K
              refine gen_frame fun F5 hA => ?_
              have hF : F5 = F4.put none undef := hA
              have hF5 := Lib.hid hF
              have e30_5 : F5.eval (.tmp 30) = Value.slice (some ⟨b, off, none⟩) m c := by rw [hF, ev_none]; exact e30_4
              have e34_5 : F5.eval (.tmp 34) = Value.slice (some ⟨b, off + m * 32, none⟩) (n - m) (c - m) := by rw [hF, ev_none]; exact e34_4
              have e5_5 : F5.eval (.tmp 5) = (.pointer (some ⟨gB, 0, none⟩)) := by rw [hF, ev_none]; exact e5_4
              have e4_5 : F5.eval (.tmp 4) = (.pointer (some ⟨gA, 0, none⟩)) := by rw [hF, ev_none]; exact e4_4
              have e31_5 : F5.eval (.tmp 31) = (.agg (u8s r1).toArray) := by rw [hF, ev_none]; exact e31_4
              have e35_5 : F5.eval (.tmp 35) = (.agg (u8s r2).toArray) := by rw [hF, ev_none]; exact e35_4
              have z5 : F5.tmps.size = 41 := by rw [hF, put_size]; exact z4
              clear hF hA
              refine wpAny_ready (rs := [11]) (by kernel_rfl) (by simp) ?_
              refine AllReady.cons (o := { dst := none, op := Go.Op.store 27 (Go.Operand.tmp 5) (Go.Operand.tmp 35), type := 0, pos := "sum.go:124", after := #[{ on := 9, ground := Go.Ground.data }, { on := 7, ground := Go.Ground.data }, { on := 10, ground := Go.Ground.chain }, { on := 0, ground := Go.Ground.phase }, { on := 1, ground := Go.Ground.phase }, { on := 2, ground := Go.Ground.phase }, { on := 3, ground := Go.Ground.phase }, { on := 4, ground := Go.Ground.phase }, { on := 5, ground := Go.Ground.phase }, { on := 6, ground := Go.Ground.phase }, { on := 7, ground := Go.Ground.phase }, { on := 8, ground := Go.Ground.phase }, { on := 9, ground := Go.Ground.phase }, { on := 10, ground := Go.Ground.phase }], guard := none }) rfl (fun K hK => ?_) ?_
              · refine st_store (by rfl) 27 (.tmp 5) (.tmp 35) (by rfl) gB (u8s r2).toArray e5_5 e35_5 27 _ HB5 HS2.out HZ2.out HU2.out ?_
                intro W6 q6 HB6
                have Q6 := qt_grown Q5 q6 bB
                have HA6 := blk_far HA5 q6 (fun e => ne (by rw [e]))
                refine hK _ _ ?_
                clear hK K
                refine gen_frame fun F6 hA => ?_
                have hF : F6 = F5.put none undef := hA
                have hF6 := Lib.hid hF
                have e30_6 : F6.eval (.tmp 30) = Value.slice (some ⟨b, off, none⟩) m c := by rw [hF, ev_none]; exact e30_5
                have e34_6 : F6.eval (.tmp 34) = Value.slice (some ⟨b, off + m * 32, none⟩) (n - m) (c - m) := by rw [hF, ev_none]; exact e34_5
                have e5_6 : F6.eval (.tmp 5) = (.pointer (some ⟨gB, 0, none⟩)) := by rw [hF, ev_none]; exact e5_5
                have e4_6 : F6.eval (.tmp 4) = (.pointer (some ⟨gA, 0, none⟩)) := by rw [hF, ev_none]; exact e4_5
                have e31_6 : F6.eval (.tmp 31) = (.agg (u8s r1).toArray) := by rw [hF, ev_none]; exact e31_5
                have e35_6 : F6.eval (.tmp 35) = (.agg (u8s r2).toArray) := by rw [hF, ev_none]; exact e35_5
                have z6 : F6.tmps.size = 41 := by rw [hF, put_size]; exact z5
                clear hF hA
                refine wpAny_done (by kernel_rfl) ?_ _
                rw [hF6.out, hF5.out, hF4.out, hF3.out, hF2.out, hF1.out, hF0.out]
                go_wp2_with fail
                go_meet
                exact ⟨gA, gB, rfl, rfl, HR.out.below Q6, HA6, HB6⟩
              exact AllReady.nil
            exact AllReady.nil
          exact AllReady.nil
        exact AllReady.nil
      exact AllReady.nil
    exact AllReady.nil
  case rest =>
    obtain ⟨gA, gB, rfl, rfl, hO, hA, hB⟩ := hcut
    have HOc := Lib.hid hO
    have HAc := Lib.hid hA
    have HBc := Lib.hid hB
    clear hO hA hB
    obtain ⟨S, hS⟩ : ∃ S, S = root l := ⟨_, rfl⟩
    have hSl : S.length = 32 := by rw [hS]; exact root_len l
    have hr := HROOT.out
    rw [← hS] at hr
    have HSS := Lib.hid hS
    have HRT := Lib.hid hr
    have HI := Lib.hid (sz32 S hSl)
    have HOZ := Lib.hid (sz32z S hSl)
    have H1 := Lib.hid (u8s_one S)
    have hcf2 : ∀ args w, (callFunc 10 args).run Try.prog w = .ok (.enter 10 args) w := cfOf
    clear hr hS hSl
    go_wp2_with fail
    refine wp_region_any (by kernel_rfl) ?_
    change wpAny _ _ _ _ _ _ _ (World.drew _)
    refine wpAny_take (i := 1) (oi := { dst := some 37, op := Go.Op.slice 27 (Go.Operand.tmp 4) none none none, type := 38, pos := "sum.go:125", after := #[], guard := none }) (v := Value.slice (some ⟨gA, 0, none⟩) 32 32) rfl (by kernel_rfl) (by kernel_rfl) (by kernel_rfl) (fun _ _ _ h => h) (Or.inl ⟨by rfl, fun w => by go_simp⟩) ?_
    refine wpAny_take (i := 2) (oi := { dst := some 38, op := Go.Op.slice 27 (Go.Operand.tmp 5) none none none, type := 38, pos := "sum.go:125", after := #[], guard := none }) (v := Value.slice (some ⟨gB, 0, none⟩) 32 32) rfl (by kernel_rfl) (by kernel_rfl) (by kernel_rfl) (fun _ _ _ h => h) (Or.inl ⟨by rfl, fun w => by go_simp⟩) ?_
    refine gen_frame fun F0 hA => ?_
    have e2_0 : F0.eval (.tmp 2) = Value.pointer (some ⟨w.heap.size, 0, none⟩) := by rw [hA]; simp [Act.put, Act.eval]
    have e37_0 : F0.eval (.tmp 37) = Value.slice (some ⟨gA, 0, none⟩) 32 32 := by rw [hA]; simp [Act.put, Act.eval]
    have e38_0 : F0.eval (.tmp 38) = Value.slice (some ⟨gB, 0, none⟩) 32 32 := by rw [hA]; simp [Act.put, Act.eval]
    have z0 : F0.tmps.size = 41 := by rw [hA]; simp [Act.put]
    have hF0 := Lib.hid hA
    clear hA
    generalize hW : World.drew _ = W0
    have hO2 : Own1 w w.heap.size 27 (u8s (List.replicate 32 0)) W0 := by rw [← hW]; exact HOc.out.drew
    have hA2 : W0.heap[gA]? = some (.cells (u8s r1).toArray 27 (0, 0)) := by rw [← hW]; exact HAc.out
    have hB2 : W0.heap[gB]? = some (.cells (u8s r2).toArray 27 (0, 0)) := by rw [← hW]; exact HBc.out
    have HRES := Lib.hid hO2.blk
    have HQ1 := Lib.hid (show Qt w W0 from hO2.bel)
    have hcof : Calls Try.prog 10 #[.slice (some ⟨W0.heap.size + 1, 0, none⟩) 3 3] ((W0.alloc (.cells #[.int .u8 2] 5)).alloc (.cells #[.slice (some ⟨W0.heap.size, 0, none⟩) 1 1, .slice (some ⟨gA, 0, none⟩) 32 32, .slice (some ⟨gB, 0, none⟩) 32 32] 38)) fun e w' => e = .returned (.agg (u8s S).toArray) ∧ Qt W0 w' := by
      refine (of_any [[2], r1, r2] _ _ (parts3 (by simp) (rdn_new (xs := u8s [2])) ((rd_blk hA2 HL1.out).al _) ((rd_blk hB2 HL2.out).al _) (by decide) HT1.out HT2.out) (by simp) (by simp [HL1.out, HL2.out])).mono ?_
      rintro e w' ⟨rfl, q⟩
      exact ⟨by rw [HRT.out]; simp, (((Qt.refl W0).alloc _).alloc _).trans q⟩
    have HCOF := Lib.hid hcof
    clear hcof hO2 hA2 hB2 hW
    refine wpAny_ready (rs := [0]) (by kernel_rfl) (by simp) ?_
    refine AllReady.cons (o := { dst := some 36, op := Go.Op.buildSlice 38 1 #[(0, Go.Operand.const (Go.Value.int Go.IntKind.u8 2))], type := 38, pos := "sum.go:125", after := #[], guard := none }) rfl (fun K hK => ?_) ?_
    · refine st_run (by rfl) (.slice (some ⟨W0.heap.size, 0, none⟩) 1 1) (W0.alloc (.cells #[.int .u8 2] 5)) (by go_simp) ?_
      refine hK _ _ ?_
      clear hK K
      refine gen_frame fun F1 hA => ?_
      have hF : F1 = F0.put (some 36) (.slice (some ⟨W0.heap.size, 0, none⟩) 1 1) := hA
      have hF1 := Lib.hid hF
      have e2_1 : F1.eval (.tmp 2) = Value.pointer (some ⟨w.heap.size, 0, none⟩) := by rw [hF, ev_other (by decide)]; exact e2_0
      have e37_1 : F1.eval (.tmp 37) = Value.slice (some ⟨gA, 0, none⟩) 32 32 := by rw [hF, ev_other (by decide)]; exact e37_0
      have e38_1 : F1.eval (.tmp 38) = Value.slice (some ⟨gB, 0, none⟩) 32 32 := by rw [hF, ev_other (by decide)]; exact e38_0
      have e36_1 : F1.eval (.tmp 36) = (.slice (some ⟨W0.heap.size, 0, none⟩) 1 1) := by rw [hF]; exact ev_same (by rw [z0]; decide)
      have z1 : F1.tmps.size = 41 := by rw [hF, put_size]; exact z0
      clear hF hA
      refine wpAny_ready (rs := [3]) (by kernel_rfl) (by simp) ?_
      refine AllReady.cons (o := { dst := some 39, op := Go.Op.buildSlice 22 3 #[(0, Go.Operand.tmp 36), (1, Go.Operand.tmp 37), (2, Go.Operand.tmp 38)], type := 22, pos := "sum.go:125", after := #[{ on := 0, ground := Go.Ground.data }, { on := 1, ground := Go.Ground.data }, { on := 2, ground := Go.Ground.data }], guard := none }) rfl (fun K hK => ?_) ?_
      · refine st_buildSlice (by rfl) 22 3 #[(0, .tmp 36), (1, .tmp 37), (2, .tmp 38)] #[(0, .slice (some ⟨W0.heap.size, 0, none⟩) 1 1), (1, .slice (some ⟨gA, 0, none⟩) 32 32), (2, .slice (some ⟨gB, 0, none⟩) 32 32)] (by rfl) (by simp [e36_1, e37_1, e38_1]) (.slice (some ⟨W0.heap.size + 1, 0, none⟩) 3 3) ((W0.alloc (.cells #[.int .u8 2] 5)).alloc (.cells #[.slice (some ⟨W0.heap.size, 0, none⟩) 1 1, .slice (some ⟨gA, 0, none⟩) 32 32, .slice (some ⟨gB, 0, none⟩) 32 32] 38)) (by go_simp) ?_
        refine hK _ _ ?_
        clear hK K
        refine gen_frame fun F2 hA => ?_
        have hF : F2 = F1.put (some 39) (.slice (some ⟨W0.heap.size + 1, 0, none⟩) 3 3) := hA
        have hF2 := Lib.hid hF
        have e2_2 : F2.eval (.tmp 2) = Value.pointer (some ⟨w.heap.size, 0, none⟩) := by rw [hF, ev_other (by decide)]; exact e2_1
        have e37_2 : F2.eval (.tmp 37) = Value.slice (some ⟨gA, 0, none⟩) 32 32 := by rw [hF, ev_other (by decide)]; exact e37_1
        have e38_2 : F2.eval (.tmp 38) = Value.slice (some ⟨gB, 0, none⟩) 32 32 := by rw [hF, ev_other (by decide)]; exact e38_1
        have e36_2 : F2.eval (.tmp 36) = (.slice (some ⟨W0.heap.size, 0, none⟩) 1 1) := by rw [hF, ev_other (by decide)]; exact e36_1
        have e39_2 : F2.eval (.tmp 39) = (.slice (some ⟨W0.heap.size + 1, 0, none⟩) 3 3) := by rw [hF]; exact ev_same (by rw [z1]; decide)
        have z2 : F2.tmps.size = 41 := by rw [hF, put_size]; exact z1
        clear hF hA
        refine wpAny_ready (rs := [4]) (by kernel_rfl) (by simp) ?_
        refine AllReady.cons (o := { dst := some 40, op := Go.Op.call { callee := Go.Callee.value (Go.Operand.func 10), args := #[Go.Operand.tmp 39], argTypes := #[22] }, type := 27, pos := "sum.go:125", after := #[{ on := 3, ground := Go.Ground.data }], guard := none }) rfl (fun K hK => ?_) ?_
        · refine st_call1 (by rfl) 10 (.tmp 39) 22 (by rfl) (.slice (some ⟨W0.heap.size + 1, 0, none⟩) 3 3) e39_2 (hcf2 _) _ (Qt W0) HCOF.out ?_
          intro W1 q1
          have HR1 := blk_qt HRES.out q1
          have Q1 := HQ1.out.trans q1
          refine hK _ _ ?_
          clear hK K
          refine gen_frame fun F3 hA => ?_
          have hF : F3 = F2.put (some 40) (.agg (u8s S).toArray) := hA
          have hF3 := Lib.hid hF
          have e2_3 : F3.eval (.tmp 2) = Value.pointer (some ⟨w.heap.size, 0, none⟩) := by rw [hF, ev_other (by decide)]; exact e2_2
          have e37_3 : F3.eval (.tmp 37) = Value.slice (some ⟨gA, 0, none⟩) 32 32 := by rw [hF, ev_other (by decide)]; exact e37_2
          have e38_3 : F3.eval (.tmp 38) = Value.slice (some ⟨gB, 0, none⟩) 32 32 := by rw [hF, ev_other (by decide)]; exact e38_2
          have e36_3 : F3.eval (.tmp 36) = (.slice (some ⟨W0.heap.size, 0, none⟩) 1 1) := by rw [hF, ev_other (by decide)]; exact e36_2
          have e39_3 : F3.eval (.tmp 39) = (.slice (some ⟨W0.heap.size + 1, 0, none⟩) 3 3) := by rw [hF, ev_other (by decide)]; exact e39_2
          have e40_3 : F3.eval (.tmp 40) = (.agg (u8s S).toArray) := by rw [hF]; exact ev_same (by rw [z2]; decide)
          have z3 : F3.tmps.size = 41 := by rw [hF, put_size]; exact z2
          clear hF hA
          refine wpAny_ready (rs := [5]) (by kernel_rfl) (by simp) ?_
          refine AllReady.cons (o := { dst := none, op := Go.Op.store 27 (Go.Operand.tmp 2) (Go.Operand.tmp 40), type := 0, pos := "sum.go:125", after := #[{ on := 4, ground := Go.Ground.data }, { on := 4, ground := Go.Ground.chain }, { on := 0, ground := Go.Ground.phase }, { on := 1, ground := Go.Ground.phase }, { on := 2, ground := Go.Ground.phase }, { on := 3, ground := Go.Ground.phase }, { on := 4, ground := Go.Ground.phase }], guard := none }) rfl (fun K hK => ?_) ?_
          · refine st_store (by rfl) 27 (.tmp 2) (.tmp 40) (by rfl) w.heap.size (u8s S).toArray e2_3 e40_3 27 _ HR1 HI.out HOZ.out H1.out ?_
            intro W2 q2 HR2
            have Q2 := qt_grown Q1 q2 (Nat.le_refl _)
            refine hK _ _ ?_
            clear hK K
            refine gen_frame fun F4 hA => ?_
            have hF : F4 = F3.put none undef := hA
            have hF4 := Lib.hid hF
            have e2_4 : F4.eval (.tmp 2) = Value.pointer (some ⟨w.heap.size, 0, none⟩) := by rw [hF, ev_none]; exact e2_3
            have e37_4 : F4.eval (.tmp 37) = Value.slice (some ⟨gA, 0, none⟩) 32 32 := by rw [hF, ev_none]; exact e37_3
            have e38_4 : F4.eval (.tmp 38) = Value.slice (some ⟨gB, 0, none⟩) 32 32 := by rw [hF, ev_none]; exact e38_3
            have e36_4 : F4.eval (.tmp 36) = (.slice (some ⟨W0.heap.size, 0, none⟩) 1 1) := by rw [hF, ev_none]; exact e36_3
            have e39_4 : F4.eval (.tmp 39) = (.slice (some ⟨W0.heap.size + 1, 0, none⟩) 3 3) := by rw [hF, ev_none]; exact e39_3
            have e40_4 : F4.eval (.tmp 40) = (.agg (u8s S).toArray) := by rw [hF, ev_none]; exact e40_3
            have z4 : F4.tmps.size = 41 := by rw [hF, put_size]; exact z3
            clear hF hA
            refine wpAny_done (by kernel_rfl) ?_ _
            rw [hF4.out, hF3.out, hF2.out, hF1.out, hF0.out]
            go_wp2_with fail
            exact bodyPost_ret (v := .agg (u8s S).toArray) (results_cell_row rfl _ _ w.heap.size _ _ _ (.array 32 5) rfl HR2 (by kernel_rfl) rfl HI.out) rfl ⟨by rw [HSS.out], Q2⟩
          exact AllReady.nil
        exact AllReady.nil
      exact AllReady.nil
    exact AllReady.nil
end Go.Proofs.Ytjpimfbkdighfaa
