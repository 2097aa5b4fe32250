import Derived.Test.YtjpimfbkdighfaaHB
import Derived.Test.YtjpimfbkdighfaaE
namespace Go.Proofs.Ytjpimfbkdighfaa
open Go.RowKit
set_option linter.unusedSimpArgs false
set_option linter.unusedVariables false

theorem rangeAt_qt {w w' : World} {b o : Nat} {cs : List Value} (h : w.rangeAt b o cs) (q : Qt w w') : w'.rangeAt b o cs := fun j v hv => (q.cell (p := ⟨b, o + j, none⟩) (blk_of_cell (h j v hv))).trans (h j v hv)
theorem flat_get (l : List (List Nat)) (h : ∀ x ∈ l, x.length = 32) {k : Nat} {x : List Nat} (hx : l[k]? = some x) : ∀ j u, (u8s x)[j]? = some u → (u8s l.flatten)[k * 32 + j]? = some u := by
  induction l generalizing k with
  | nil => simp at hx
  | cons a l ih =>
    intro j u hu
    have ha : a.length = 32 := h a (by simp)
    cases k with
    | zero =>
      simp at hx
      subst hx
      rw [List.flatten_cons, u8s_app, Nat.zero_mul, Nat.zero_add, List.getElem?_append_left (List.getElem?_eq_some_iff.1 hu).1]; exact hu
    | succ k =>
      rw [List.getElem?_cons_succ] at hx
      have := ih (fun x hx => h x (by simp [hx])) hx j u hu
      rw [List.flatten_cons, u8s_app, List.getElem?_append_right (by rw [u8s_len]; omega), u8s_len, ha, show (k + 1) * 32 + j - 32 = k * 32 + j from by omega]; exact this
theorem eqH32 (a : List Nat) (ha : a.length = 32) (w : World) : (binOp .eql 27 (.agg (u8s a).toArray) (.agg (u8s a).toArray)).run Try.prog w = .ok (.bool true) w := by
  obtain ⟨ie, hi, _⟩ := info_parts (P := Try.prog) (e := 5) (z := .int .u8 0) (size := 1) (bytes := 1) (by kernel_rfl)
  have := run_eql_hash (P := Try.prog) (t := 27) (n := 32) (by kernel_rfl) hi (by kernel_rfl) (by kernel_rfl) a a ha ha w
  rw [this]; simp

set_option maxRecDepth 100000 in
set_option maxHeartbeats 1000000 in
theorem keptHashes_any (l : List (List Nat)) (hn : l.length ≤ 100000) (base : Nat) (u v : Value) (w : World) (hu : LentH w base u l) (hv : Hs w v l) :
    Calls Try.prog 16 #[u, v] w fun e w' => e = .returned (.bool true) ∧ Qt w w' := by
  obtain ⟨⟨g, off, c, rfl, _, hgs, hc, hcm, hcell⟩, hlen, hlt⟩ := hu
  obtain ⟨⟨va, vc, rfl, hvc, hvx⟩, _, _⟩ := hv
  unfold maxLen at hcm
  have hall : ∀ x ∈ l ++ mkhs, x.length = 32 := by
    intro x hx
    rcases List.mem_append.1 hx with h | h
    · exact hlen x h
    · obtain ⟨j, _, rfl⟩ := List.mem_map.1 h; rfl
  have hra : ∀ k x, (l ++ mkhs)[k]? = some x → w.rangeAt g (off + k * 32) (u8s x) := fun k x hx j u hu => by rw [Nat.add_assoc]; exact hcell _ u (flat_get _ hall hx j u hu)
  have hrb : ∀ k x, l[k]? = some x → ∃ b o2, va = some ⟨b, o2, none⟩ ∧ w.rangeAt b (o2 + k * 32) (u8s x) := fun k x hx => by
    rcases hvx with h0 | ⟨b, o2, rfl, h⟩
    · have := flat_get l hlen hx 0 _ (List.getElem?_eq_getElem (by rw [u8s_len, hlen x (List.mem_of_getElem? hx)]; decide))
      rw [h0] at this; simp at this
    · exact ⟨b, o2, rfl, fun j u hu => by rw [Nat.add_assoc]; exact h _ u (flat_get l hlen hx j u hu)⟩
  have HRA := Lib.hid hra
  have HRB := Lib.hid hrb
  have HLEN := Lib.hid hlen
  obtain ⟨n, hnn⟩ : ∃ n, n = l.length := ⟨_, rfl⟩
  rw [← hnn] at hc hn hvc ⊢
  have HNN := Lib.hid hnn
  clear hcell hlt hvx hall hra hrb hlen hnn
  have HU : Try.prog.underlying 27 = some (.array 32 5) := by kernel_rfl
  go_enter Try.func16, Try.ntmps16
  go_wp2
  go_loopw [6] (fun i wr => ∃ k : Nat, k ≤ n + 12 ∧ i = .int .i64 k ∧ Below w.heap.size w wr) (fun i _ => n + 12 - (intOf i).toNat)
  case atStart => exact ⟨0, by omega, rfl, Below.refl _ _⟩
  case round =>
    obtain ⟨k, hk, rfl, hb⟩ := hrel
    have HB := Lib.hid hb; clear hb
    by_cases h12 : k < n + 12
    · by_cases hkn : k < n
      · obtain ⟨x, hx⟩ : ∃ x, l[k]? = some x := ⟨_, List.getElem?_eq_getElem (by rw [← HNN.out]; exact hkn)⟩
        have hxl := HLEN.out x (List.mem_of_getElem? hx)
        obtain ⟨b, o2, rfl, c1'⟩ := HRB.out k x hx
        have c0 : wr.rangeAt g (off + k * 32) (u8s x) := rangeAt_qt (HRA.out k x (by rw [List.getElem?_append_left (by rw [← HNN.out]; exact hkn)]; exact hx)) HB.out
        have c1 : wr.rangeAt b (o2 + k * 32) (u8s x) := rangeAt_qt c1' HB.out
        have heq := eqH32 x hxl
        have HI := Lib.hid (show ((Try.prog).info? 27).map (·.size) = some (u8s x).length from by rw [u8s_len, hxl]; kernel_rfl)
        clear hx c1' hxl
        have i1 : (k : Int) < (n : Int) := by omega
        have i2 : (0 : Int) ≤ (k : Int) := by omega
        have i3 : (k : Int) < (n : Int) + 12 := by omega
        have d1 : decide (n ≤ k) = false := by simp; omega
        go_wp2_with fail
        -- MARKA
        refine wp_region_held (S := (fun w' => w'.rangeAt g (off + k * 32) (u8s x) ∧ w'.rangeAt b (o2 + k * 32) (u8s x))) (by kernel_rfl) ?_
        change wpAnyH _ _ _ _ _ _ _ _ (World.drew _)
        refine gen_frameH fun F0 hA => ?_
        have e1_0 : F0.eval (.tmp 1) = Value.slice (some ⟨b, o2, none⟩) n vc := by rw [hA]; rfl
        have e5_0 : F0.eval (.tmp 5) = Value.slice (some ⟨g, off, none⟩) (n + 12) c := by rw [hA]; rfl
        have e6_0 : F0.eval (.tmp 6) = Value.int .i64 (k : Int) := by rw [hA]; rfl
        have z0 : F0.tmps.size = 58 := by rw [hA]; rfl
        have hF0 := Lib.hid hA
        clear hA
        generalize hW : World.drew _ = W0
        have HS : W0.rangeAt g (off + k * 32) (u8s x) ∧ W0.rangeAt b (o2 + k * 32) (u8s x) := by rw [← hW]; exact ⟨c0, c1⟩
        have HB0 := Lib.hid (show Below w.heap.size w W0 from by rw [← hW]; exact HB.out.drew)
        clear hW
        refine takeH (i := 0) (oi := { dst := some 23, op := Go.Op.move (Go.Operand.tmp 6), type := 3, pos := "lent.go:292", after := #[], guard := none }) (v := Value.int .i64 (k : Int)) rfl (by kernel_rfl) (by kernel_rfl) (by kernel_rfl) (fun _ _ _ h => h) HS (wanted_n rfl) (fun w hs => run_mv rfl e6_0 w) ?_
        intro F1 hA
        have hF : F1 = F0.put (some 23) (Value.int .i64 (k : Int)) := hA
        have hF1 := Lib.hid hF
        have e1_1 : F1.eval (.tmp 1) = Value.slice (some ⟨b, o2, none⟩) n vc := by rw [hF, ev_other (by decide)]; exact e1_0
        have e5_1 : F1.eval (.tmp 5) = Value.slice (some ⟨g, off, none⟩) (n + 12) c := by rw [hF, ev_other (by decide)]; exact e5_0
        have e6_1 : F1.eval (.tmp 6) = Value.int .i64 (k : Int) := by rw [hF, ev_other (by decide)]; exact e6_0
        have e23_1 : F1.eval (.tmp 23) = Value.int .i64 (k : Int) := by rw [hF]; exact ev_same (by rw [z0]; decide)
        have z1 : F1.tmps.size = 58 := by rw [hF, put_size]; exact z0
        clear hF hA e1_0 e5_0 e6_0 z0
        refine takeH (i := 1) (oi := { dst := some 24, op := Go.Op.move (Go.Operand.tmp 1), type := 32, pos := "lent.go:292", after := #[], guard := none }) (v := Value.slice (some ⟨b, o2, none⟩) n vc) rfl (by kernel_rfl) (by kernel_rfl) (by kernel_rfl) (fun _ _ _ h => h) HS (wanted_n rfl) (fun w hs => run_mv rfl e1_1 w) ?_
        intro F2 hA
        have hF : F2 = F1.put (some 24) (Value.slice (some ⟨b, o2, none⟩) n vc) := hA
        have hF2 := Lib.hid hF
        have e1_2 : F2.eval (.tmp 1) = Value.slice (some ⟨b, o2, none⟩) n vc := by rw [hF, ev_other (by decide)]; exact e1_1
        have e5_2 : F2.eval (.tmp 5) = Value.slice (some ⟨g, off, none⟩) (n + 12) c := by rw [hF, ev_other (by decide)]; exact e5_1
        have e6_2 : F2.eval (.tmp 6) = Value.int .i64 (k : Int) := by rw [hF, ev_other (by decide)]; exact e6_1
        have e23_2 : F2.eval (.tmp 23) = Value.int .i64 (k : Int) := by rw [hF, ev_other (by decide)]; exact e23_1
        have e24_2 : F2.eval (.tmp 24) = Value.slice (some ⟨b, o2, none⟩) n vc := by rw [hF]; exact ev_same (by rw [z1]; decide)
        have z2 : F2.tmps.size = 58 := by rw [hF, put_size]; exact z1
        clear hF hA e1_1 e5_1 e6_1 e23_1 z1
        refine takeH (i := 2) (oi := { dst := some 25, op := Go.Op.call { callee := Go.Callee.builtin Go.Builtin.len, args := #[Go.Operand.tmp 24], argTypes := #[32] }, type := 3, pos := "lent.go:292", after := #[{ on := 1, ground := Go.Ground.data }], guard := none }) (v := Value.int .i64 (n : Int)) rfl (by kernel_rfl) (by kernel_rfl) (by kernel_rfl) (fun _ _ _ h => h) HS (wanted_n rfl) (fun w hs => run_lenS (e := 27) rfl e24_2 (by kernel_rfl) (by omega) w) ?_
        intro F3 hA
        have hF : F3 = F2.put (some 25) (Value.int .i64 (n : Int)) := hA
        have hF3 := Lib.hid hF
        have e1_3 : F3.eval (.tmp 1) = Value.slice (some ⟨b, o2, none⟩) n vc := by rw [hF, ev_other (by decide)]; exact e1_2
        have e5_3 : F3.eval (.tmp 5) = Value.slice (some ⟨g, off, none⟩) (n + 12) c := by rw [hF, ev_other (by decide)]; exact e5_2
        have e6_3 : F3.eval (.tmp 6) = Value.int .i64 (k : Int) := by rw [hF, ev_other (by decide)]; exact e6_2
        have e23_3 : F3.eval (.tmp 23) = Value.int .i64 (k : Int) := by rw [hF, ev_other (by decide)]; exact e23_2
        have e25_3 : F3.eval (.tmp 25) = Value.int .i64 (n : Int) := by rw [hF]; exact ev_same (by rw [z2]; decide)
        have z3 : F3.tmps.size = 58 := by rw [hF, put_size]; exact z2
        clear hF hA e1_2 e5_2 e6_2 e23_2 e24_2 z2
        refine takeH (i := 3) (oi := { dst := some 26, op := Go.Op.binOp Go.BinOp.lss 3 (Go.Operand.tmp 23) (Go.Operand.tmp 25) 3, type := 4, pos := "lent.go:292", after := #[{ on := 0, ground := Go.Ground.data }, { on := 2, ground := Go.Ground.data }], guard := none }) (v := Value.bool true) rfl (by kernel_rfl) (by kernel_rfl) (by kernel_rfl) (fun _ _ _ h => h) HS (wanted_n rfl) (fun w hs => by simp only [execOp, e23_3, e25_3]; go_simp) ?_
        intro F4 hA
        have hF : F4 = F3.put (some 26) (Value.bool true) := hA
        have hF4 := Lib.hid hF
        have e1_4 : F4.eval (.tmp 1) = Value.slice (some ⟨b, o2, none⟩) n vc := by rw [hF, ev_other (by decide)]; exact e1_3
        have e5_4 : F4.eval (.tmp 5) = Value.slice (some ⟨g, off, none⟩) (n + 12) c := by rw [hF, ev_other (by decide)]; exact e5_3
        have e6_4 : F4.eval (.tmp 6) = Value.int .i64 (k : Int) := by rw [hF, ev_other (by decide)]; exact e6_3
        have e26_4 : F4.eval (.tmp 26) = Value.bool true := by rw [hF]; exact ev_same (by rw [z3]; decide)
        have z4 : F4.tmps.size = 58 := by rw [hF, put_size]; exact z3
        clear hF hA e1_3 e5_3 e6_3 e23_3 e25_3 z3
        refine takeH (i := 4) (oi := { dst := some 27, op := Go.Op.move (Go.Operand.tmp 26), type := 4, pos := "lent.go:292", after := #[{ on := 3, ground := Go.Ground.data }], guard := none }) (v := Value.bool true) rfl (by kernel_rfl) (by kernel_rfl) (by kernel_rfl) (fun _ _ _ h => h) HS (wanted_n rfl) (fun w hs => run_mv rfl e26_4 w) ?_
        intro F5 hA
        have hF : F5 = F4.put (some 27) (Value.bool true) := hA
        have hF5 := Lib.hid hF
        have e1_5 : F5.eval (.tmp 1) = Value.slice (some ⟨b, o2, none⟩) n vc := by rw [hF, ev_other (by decide)]; exact e1_4
        have e5_5 : F5.eval (.tmp 5) = Value.slice (some ⟨g, off, none⟩) (n + 12) c := by rw [hF, ev_other (by decide)]; exact e5_4
        have e6_5 : F5.eval (.tmp 6) = Value.int .i64 (k : Int) := by rw [hF, ev_other (by decide)]; exact e6_4
        have e27_5 : F5.eval (.tmp 27) = Value.bool true := by rw [hF]; exact ev_same (by rw [z4]; decide)
        have z5 : F5.tmps.size = 58 := by rw [hF, put_size]; exact z4
        clear hF hA e1_4 e5_4 e6_4 e26_4 z4
        refine takeH (i := 5) (oi := { dst := some 28, op := Go.Op.move (Go.Operand.tmp 5), type := 32, pos := "lent.go:292", after := #[{ on := 4, ground := Go.Ground.guard }], guard := some (4, true) }) (v := Value.slice (some ⟨g, off, none⟩) (n + 12) c) rfl (by kernel_rfl) (by kernel_rfl) (by kernel_rfl) (fun _ _ _ h => h) HS (by rw [wanted_g (d := 27) rfl rfl e27_5 (by rw [z5]; decide)]; rfl) (fun w hs => run_mv rfl e5_5 w) ?_
        intro F6 hA
        have hF : F6 = F5.put (some 28) (Value.slice (some ⟨g, off, none⟩) (n + 12) c) := hA
        have hF6 := Lib.hid hF
        have e1_6 : F6.eval (.tmp 1) = Value.slice (some ⟨b, o2, none⟩) n vc := by rw [hF, ev_other (by decide)]; exact e1_5
        have e6_6 : F6.eval (.tmp 6) = Value.int .i64 (k : Int) := by rw [hF, ev_other (by decide)]; exact e6_5
        have e27_6 : F6.eval (.tmp 27) = Value.bool true := by rw [hF, ev_other (by decide)]; exact e27_5
        have e28_6 : F6.eval (.tmp 28) = Value.slice (some ⟨g, off, none⟩) (n + 12) c := by rw [hF]; exact ev_same (by rw [z5]; decide)
        have z6 : F6.tmps.size = 58 := by rw [hF, put_size]; exact z5
        clear hF hA e1_5 e5_5 e6_5 e27_5 z5
        refine takeH (i := 6) (oi := { dst := some 29, op := Go.Op.move (Go.Operand.tmp 6), type := 3, pos := "lent.go:292", after := #[{ on := 4, ground := Go.Ground.guard }], guard := some (4, true) }) (v := Value.int .i64 (k : Int)) rfl (by kernel_rfl) (by kernel_rfl) (by kernel_rfl) (fun _ _ _ h => h) HS (by rw [wanted_g (d := 27) rfl rfl e27_6 (by rw [z6]; decide)]; rfl) (fun w hs => run_mv rfl e6_6 w) ?_
        intro F7 hA
        have hF : F7 = F6.put (some 29) (Value.int .i64 (k : Int)) := hA
        have hF7 := Lib.hid hF
        have e1_7 : F7.eval (.tmp 1) = Value.slice (some ⟨b, o2, none⟩) n vc := by rw [hF, ev_other (by decide)]; exact e1_6
        have e6_7 : F7.eval (.tmp 6) = Value.int .i64 (k : Int) := by rw [hF, ev_other (by decide)]; exact e6_6
        have e27_7 : F7.eval (.tmp 27) = Value.bool true := by rw [hF, ev_other (by decide)]; exact e27_6
        have e28_7 : F7.eval (.tmp 28) = Value.slice (some ⟨g, off, none⟩) (n + 12) c := by rw [hF, ev_other (by decide)]; exact e28_6
        have e29_7 : F7.eval (.tmp 29) = Value.int .i64 (k : Int) := by rw [hF]; exact ev_same (by rw [z6]; decide)
        have z7 : F7.tmps.size = 58 := by rw [hF, put_size]; exact z6
        clear hF hA e1_6 e6_6 e27_6 e28_6 z6
        refine takeH (i := 7) (oi := { dst := some 30, op := Go.Op.indexAddr 32 (Go.Operand.tmp 28) (Go.Operand.tmp 29), type := 0, pos := "lent.go:292", after := #[{ on := 5, ground := Go.Ground.data }, { on := 6, ground := Go.Ground.data }, { on := 4, ground := Go.Ground.guard }], guard := some (4, true) }) (v := Value.pointer (some ⟨g, off + k * 32, none⟩)) rfl (by kernel_rfl) (by kernel_rfl) (by kernel_rfl) (fun _ _ _ h => h) HS (by rw [wanted_g (d := 27) rfl rfl e27_7 (by rw [z7]; decide)]; rfl) (fun w hs => by simp only [execOp, e28_7, e29_7]; go_simp) ?_
        intro F8 hA
        have hF : F8 = F7.put (some 30) (Value.pointer (some ⟨g, off + k * 32, none⟩)) := hA
        have hF8 := Lib.hid hF
        have e1_8 : F8.eval (.tmp 1) = Value.slice (some ⟨b, o2, none⟩) n vc := by rw [hF, ev_other (by decide)]; exact e1_7
        have e6_8 : F8.eval (.tmp 6) = Value.int .i64 (k : Int) := by rw [hF, ev_other (by decide)]; exact e6_7
        have e27_8 : F8.eval (.tmp 27) = Value.bool true := by rw [hF, ev_other (by decide)]; exact e27_7
        have e30_8 : F8.eval (.tmp 30) = Value.pointer (some ⟨g, off + k * 32, none⟩) := by rw [hF]; exact ev_same (by rw [z7]; decide)
        have z8 : F8.tmps.size = 58 := by rw [hF, put_size]; exact z7
        clear hF hA e1_7 e6_7 e27_7 e28_7 e29_7 z7
        refine takeH (i := 8) (oi := { dst := some 31, op := Go.Op.load 27 (Go.Operand.tmp 30), type := 27, pos := "lent.go:292", after := #[{ on := 7, ground := Go.Ground.data }, { on := 4, ground := Go.Ground.guard }], guard := some (4, true) }) (v := Value.agg (u8s x).toArray) rfl (by kernel_rfl) (by kernel_rfl) (by kernel_rfl) (fun _ _ _ h => h) HS (by rw [wanted_g (d := 27) rfl rfl e27_8 (by rw [z8]; decide)]; rfl) (fun w hs => run_ld (cs := u8s x) rfl e30_8 hs.1 HU rfl HI.out) ?_
        intro F9 hA
        have hF : F9 = F8.put (some 31) (Value.agg (u8s x).toArray) := hA
        have hF9 := Lib.hid hF
        have e1_9 : F9.eval (.tmp 1) = Value.slice (some ⟨b, o2, none⟩) n vc := by rw [hF, ev_other (by decide)]; exact e1_8
        have e6_9 : F9.eval (.tmp 6) = Value.int .i64 (k : Int) := by rw [hF, ev_other (by decide)]; exact e6_8
        have e27_9 : F9.eval (.tmp 27) = Value.bool true := by rw [hF, ev_other (by decide)]; exact e27_8
        have e31_9 : F9.eval (.tmp 31) = Value.agg (u8s x).toArray := by rw [hF]; exact ev_same (by rw [z8]; decide)
        have z9 : F9.tmps.size = 58 := by rw [hF, put_size]; exact z8
        clear hF hA e1_8 e6_8 e27_8 e30_8 z8
        refine takeH (i := 9) (oi := { dst := some 32, op := Go.Op.move (Go.Operand.tmp 1), type := 32, pos := "lent.go:292", after := #[{ on := 4, ground := Go.Ground.guard }], guard := some (4, true) }) (v := Value.slice (some ⟨b, o2, none⟩) n vc) rfl (by kernel_rfl) (by kernel_rfl) (by kernel_rfl) (fun _ _ _ h => h) HS (by rw [wanted_g (d := 27) rfl rfl e27_9 (by rw [z9]; decide)]; rfl) (fun w hs => run_mv rfl e1_9 w) ?_
        intro F10 hA
        have hF : F10 = F9.put (some 32) (Value.slice (some ⟨b, o2, none⟩) n vc) := hA
        have hF10 := Lib.hid hF
        have e1_10 : F10.eval (.tmp 1) = Value.slice (some ⟨b, o2, none⟩) n vc := by rw [hF, ev_other (by decide)]; exact e1_9
        have e6_10 : F10.eval (.tmp 6) = Value.int .i64 (k : Int) := by rw [hF, ev_other (by decide)]; exact e6_9
        have e27_10 : F10.eval (.tmp 27) = Value.bool true := by rw [hF, ev_other (by decide)]; exact e27_9
        have e31_10 : F10.eval (.tmp 31) = Value.agg (u8s x).toArray := by rw [hF, ev_other (by decide)]; exact e31_9
        have e32_10 : F10.eval (.tmp 32) = Value.slice (some ⟨b, o2, none⟩) n vc := by rw [hF]; exact ev_same (by rw [z9]; decide)
        have z10 : F10.tmps.size = 58 := by rw [hF, put_size]; exact z9
        clear hF hA e1_9 e6_9 e27_9 e31_9 z9
        refine takeH (i := 10) (oi := { dst := some 33, op := Go.Op.move (Go.Operand.tmp 6), type := 3, pos := "lent.go:292", after := #[{ on := 4, ground := Go.Ground.guard }], guard := some (4, true) }) (v := Value.int .i64 (k : Int)) rfl (by kernel_rfl) (by kernel_rfl) (by kernel_rfl) (fun _ _ _ h => h) HS (by rw [wanted_g (d := 27) rfl rfl e27_10 (by rw [z10]; decide)]; rfl) (fun w hs => run_mv rfl e6_10 w) ?_
        intro F11 hA
        have hF : F11 = F10.put (some 33) (Value.int .i64 (k : Int)) := hA
        have hF11 := Lib.hid hF
        have e1_11 : F11.eval (.tmp 1) = Value.slice (some ⟨b, o2, none⟩) n vc := by rw [hF, ev_other (by decide)]; exact e1_10
        have e6_11 : F11.eval (.tmp 6) = Value.int .i64 (k : Int) := by rw [hF, ev_other (by decide)]; exact e6_10
        have e27_11 : F11.eval (.tmp 27) = Value.bool true := by rw [hF, ev_other (by decide)]; exact e27_10
        have e31_11 : F11.eval (.tmp 31) = Value.agg (u8s x).toArray := by rw [hF, ev_other (by decide)]; exact e31_10
        have e32_11 : F11.eval (.tmp 32) = Value.slice (some ⟨b, o2, none⟩) n vc := by rw [hF, ev_other (by decide)]; exact e32_10
        have e33_11 : F11.eval (.tmp 33) = Value.int .i64 (k : Int) := by rw [hF]; exact ev_same (by rw [z10]; decide)
        have z11 : F11.tmps.size = 58 := by rw [hF, put_size]; exact z10
        clear hF hA e1_10 e6_10 e27_10 e31_10 e32_10 z10
        refine takeH (i := 11) (oi := { dst := some 34, op := Go.Op.indexAddr 32 (Go.Operand.tmp 32) (Go.Operand.tmp 33), type := 0, pos := "lent.go:292", after := #[{ on := 9, ground := Go.Ground.data }, { on := 10, ground := Go.Ground.data }, { on := 4, ground := Go.Ground.guard }], guard := some (4, true) }) (v := Value.pointer (some ⟨b, o2 + k * 32, none⟩)) rfl (by kernel_rfl) (by kernel_rfl) (by kernel_rfl) (fun _ _ _ h => h) HS (by rw [wanted_g (d := 27) rfl rfl e27_11 (by rw [z11]; decide)]; rfl) (fun w hs => by simp only [execOp, e32_11, e33_11]; go_simp) ?_
        intro F12 hA
        have hF : F12 = F11.put (some 34) (Value.pointer (some ⟨b, o2 + k * 32, none⟩)) := hA
        have hF12 := Lib.hid hF
        have e1_12 : F12.eval (.tmp 1) = Value.slice (some ⟨b, o2, none⟩) n vc := by rw [hF, ev_other (by decide)]; exact e1_11
        have e6_12 : F12.eval (.tmp 6) = Value.int .i64 (k : Int) := by rw [hF, ev_other (by decide)]; exact e6_11
        have e27_12 : F12.eval (.tmp 27) = Value.bool true := by rw [hF, ev_other (by decide)]; exact e27_11
        have e31_12 : F12.eval (.tmp 31) = Value.agg (u8s x).toArray := by rw [hF, ev_other (by decide)]; exact e31_11
        have e34_12 : F12.eval (.tmp 34) = Value.pointer (some ⟨b, o2 + k * 32, none⟩) := by rw [hF]; exact ev_same (by rw [z11]; decide)
        have z12 : F12.tmps.size = 58 := by rw [hF, put_size]; exact z11
        clear hF hA e1_11 e6_11 e27_11 e31_11 e32_11 e33_11 z11
        refine takeH (i := 12) (oi := { dst := some 35, op := Go.Op.load 27 (Go.Operand.tmp 34), type := 27, pos := "lent.go:292", after := #[{ on := 11, ground := Go.Ground.data }, { on := 4, ground := Go.Ground.guard }], guard := some (4, true) }) (v := Value.agg (u8s x).toArray) rfl (by kernel_rfl) (by kernel_rfl) (by kernel_rfl) (fun _ _ _ h => h) HS (by rw [wanted_g (d := 27) rfl rfl e27_12 (by rw [z12]; decide)]; rfl) (fun w hs => run_ld (cs := u8s x) rfl e34_12 hs.2 HU rfl HI.out) ?_
        intro F13 hA
        have hF : F13 = F12.put (some 35) (Value.agg (u8s x).toArray) := hA
        have hF13 := Lib.hid hF
        have e1_13 : F13.eval (.tmp 1) = Value.slice (some ⟨b, o2, none⟩) n vc := by rw [hF, ev_other (by decide)]; exact e1_12
        have e6_13 : F13.eval (.tmp 6) = Value.int .i64 (k : Int) := by rw [hF, ev_other (by decide)]; exact e6_12
        have e27_13 : F13.eval (.tmp 27) = Value.bool true := by rw [hF, ev_other (by decide)]; exact e27_12
        have e31_13 : F13.eval (.tmp 31) = Value.agg (u8s x).toArray := by rw [hF, ev_other (by decide)]; exact e31_12
        have e35_13 : F13.eval (.tmp 35) = Value.agg (u8s x).toArray := by rw [hF]; exact ev_same (by rw [z12]; decide)
        have z13 : F13.tmps.size = 58 := by rw [hF, put_size]; exact z12
        clear hF hA e1_12 e6_12 e27_12 e31_12 e34_12 z12
        refine takeH (i := 13) (oi := { dst := some 36, op := Go.Op.binOp Go.BinOp.eql 27 (Go.Operand.tmp 31) (Go.Operand.tmp 35) 27, type := 4, pos := "lent.go:292", after := #[{ on := 8, ground := Go.Ground.data }, { on := 12, ground := Go.Ground.data }, { on := 4, ground := Go.Ground.guard }], guard := some (4, true) }) (v := Value.bool true) rfl (by kernel_rfl) (by kernel_rfl) (by kernel_rfl) (fun _ _ _ h => h) HS (by rw [wanted_g (d := 27) rfl rfl e27_13 (by rw [z13]; decide)]; rfl) (fun w hs => by simp only [execOp, e31_13, e35_13]; go_simp) ?_
        intro F14 hA
        have hF : F14 = F13.put (some 36) (Value.bool true) := hA
        have hF14 := Lib.hid hF
        have e1_14 : F14.eval (.tmp 1) = Value.slice (some ⟨b, o2, none⟩) n vc := by rw [hF, ev_other (by decide)]; exact e1_13
        have e6_14 : F14.eval (.tmp 6) = Value.int .i64 (k : Int) := by rw [hF, ev_other (by decide)]; exact e6_13
        have e27_14 : F14.eval (.tmp 27) = Value.bool true := by rw [hF, ev_other (by decide)]; exact e27_13
        have e36_14 : F14.eval (.tmp 36) = Value.bool true := by rw [hF]; exact ev_same (by rw [z13]; decide)
        have z14 : F14.tmps.size = 58 := by rw [hF, put_size]; exact z13
        clear hF hA e1_13 e6_13 e27_13 e31_13 e35_13 z13
        refine takeH (i := 14) (oi := { dst := some 37, op := Go.Op.unOp Go.UnOp.not 4 (Go.Operand.tmp 36), type := 4, pos := "lent.go:292", after := #[{ on := 13, ground := Go.Ground.data }, { on := 4, ground := Go.Ground.guard }], guard := some (4, true) }) (v := Value.bool false) rfl (by kernel_rfl) (by kernel_rfl) (by kernel_rfl) (fun _ _ _ h => h) HS (by rw [wanted_g (d := 27) rfl rfl e27_14 (by rw [z14]; decide)]; rfl) (fun w hs => by simp only [execOp, e36_14]; go_simp) ?_
        intro F15 hA
        have hF : F15 = F14.put (some 37) (Value.bool false) := hA
        have hF15 := Lib.hid hF
        have e1_15 : F15.eval (.tmp 1) = Value.slice (some ⟨b, o2, none⟩) n vc := by rw [hF, ev_other (by decide)]; exact e1_14
        have e6_15 : F15.eval (.tmp 6) = Value.int .i64 (k : Int) := by rw [hF, ev_other (by decide)]; exact e6_14
        have e27_15 : F15.eval (.tmp 27) = Value.bool true := by rw [hF, ev_other (by decide)]; exact e27_14
        have e37_15 : F15.eval (.tmp 37) = Value.bool false := by rw [hF]; exact ev_same (by rw [z14]; decide)
        have z15 : F15.tmps.size = 58 := by rw [hF, put_size]; exact z14
        clear hF hA e1_14 e6_14 e27_14 e36_14 z14
        refine takeH (i := 15) (oi := { dst := some 38, op := Go.Op.pick (Go.Operand.tmp 27) (Go.Operand.tmp 37) (Go.Operand.const (Go.Value.bool false)), type := 4, pos := "lent.go:292", after := #[{ on := 4, ground := Go.Ground.data }, { on := 14, ground := Go.Ground.data }], guard := none }) (v := Value.bool false) rfl (by kernel_rfl) (by kernel_rfl) (by kernel_rfl) (fun _ _ _ h => h) HS (wanted_n rfl) (fun w hs => by simp only [execOp, e27_15, e37_15]; go_simp) ?_
        intro F16 hA
        have hF : F16 = F15.put (some 38) (Value.bool false) := hA
        have hF16 := Lib.hid hF
        have e1_16 : F16.eval (.tmp 1) = Value.slice (some ⟨b, o2, none⟩) n vc := by rw [hF, ev_other (by decide)]; exact e1_15
        have e6_16 : F16.eval (.tmp 6) = Value.int .i64 (k : Int) := by rw [hF, ev_other (by decide)]; exact e6_15
        have e38_16 : F16.eval (.tmp 38) = Value.bool false := by rw [hF]; exact ev_same (by rw [z15]; decide)
        have z16 : F16.tmps.size = 58 := by rw [hF, put_size]; exact z15
        clear hF hA e1_15 e6_15 e27_15 e37_15 z15
        refine takeH (i := 16) (oi := { dst := some 39, op := Go.Op.move (Go.Operand.tmp 38), type := 4, pos := "lent.go:292", after := #[{ on := 15, ground := Go.Ground.data }, { on := 4, ground := Go.Ground.chain }], guard := none }) (v := Value.bool false) rfl (by kernel_rfl) (by kernel_rfl) (by kernel_rfl) (fun _ _ _ h => h) HS (wanted_n rfl) (fun w hs => run_mv rfl e38_16 w) ?_
        intro F17 hA
        have hF : F17 = F16.put (some 39) (Value.bool false) := hA
        have hF17 := Lib.hid hF
        have e1_17 : F17.eval (.tmp 1) = Value.slice (some ⟨b, o2, none⟩) n vc := by rw [hF, ev_other (by decide)]; exact e1_16
        have e6_17 : F17.eval (.tmp 6) = Value.int .i64 (k : Int) := by rw [hF, ev_other (by decide)]; exact e6_16
        have e39_17 : F17.eval (.tmp 39) = Value.bool false := by rw [hF]; exact ev_same (by rw [z16]; decide)
        have z17 : F17.tmps.size = 58 := by rw [hF, put_size]; exact z16
        clear hF hA e1_16 e6_16 e38_16 z16
        refine takeH (i := 17) (oi := { dst := some 40, op := Go.Op.move (Go.Operand.tmp 6), type := 3, pos := "lent.go:292", after := #[{ on := 16, ground := Go.Ground.guard }], guard := some (16, false) }) (v := Value.int .i64 (k : Int)) rfl (by kernel_rfl) (by kernel_rfl) (by kernel_rfl) (fun _ _ _ h => h) HS (by rw [wanted_g (d := 39) rfl rfl e39_17 (by rw [z17]; decide)]; rfl) (fun w hs => run_mv rfl e6_17 w) ?_
        intro F18 hA
        have hF : F18 = F17.put (some 40) (Value.int .i64 (k : Int)) := hA
        have hF18 := Lib.hid hF
        have e1_18 : F18.eval (.tmp 1) = Value.slice (some ⟨b, o2, none⟩) n vc := by rw [hF, ev_other (by decide)]; exact e1_17
        have e39_18 : F18.eval (.tmp 39) = Value.bool false := by rw [hF, ev_other (by decide)]; exact e39_17
        have e40_18 : F18.eval (.tmp 40) = Value.int .i64 (k : Int) := by rw [hF]; exact ev_same (by rw [z17]; decide)
        have z18 : F18.tmps.size = 58 := by rw [hF, put_size]; exact z17
        clear hF hA e1_17 e6_17 e39_17 z17
        refine takeH (i := 18) (oi := { dst := some 41, op := Go.Op.move (Go.Operand.tmp 1), type := 32, pos := "lent.go:292", after := #[{ on := 16, ground := Go.Ground.guard }], guard := some (16, false) }) (v := Value.slice (some ⟨b, o2, none⟩) n vc) rfl (by kernel_rfl) (by kernel_rfl) (by kernel_rfl) (fun _ _ _ h => h) HS (by rw [wanted_g (d := 39) rfl rfl e39_18 (by rw [z18]; decide)]; rfl) (fun w hs => run_mv rfl e1_18 w) ?_
        intro F19 hA
        have hF : F19 = F18.put (some 41) (Value.slice (some ⟨b, o2, none⟩) n vc) := hA
        have hF19 := Lib.hid hF
        have e39_19 : F19.eval (.tmp 39) = Value.bool false := by rw [hF, ev_other (by decide)]; exact e39_18
        have e40_19 : F19.eval (.tmp 40) = Value.int .i64 (k : Int) := by rw [hF, ev_other (by decide)]; exact e40_18
        have e41_19 : F19.eval (.tmp 41) = Value.slice (some ⟨b, o2, none⟩) n vc := by rw [hF]; exact ev_same (by rw [z18]; decide)
        have z19 : F19.tmps.size = 58 := by rw [hF, put_size]; exact z18
        clear hF hA e1_18 e39_18 e40_18 z18
        refine takeH (i := 19) (oi := { dst := some 42, op := Go.Op.call { callee := Go.Callee.builtin Go.Builtin.len, args := #[Go.Operand.tmp 41], argTypes := #[32] }, type := 3, pos := "lent.go:292", after := #[{ on := 18, ground := Go.Ground.data }, { on := 16, ground := Go.Ground.guard }], guard := some (16, false) }) (v := Value.int .i64 (n : Int)) rfl (by kernel_rfl) (by kernel_rfl) (by kernel_rfl) (fun _ _ _ h => h) HS (by rw [wanted_g (d := 39) rfl rfl e39_19 (by rw [z19]; decide)]; rfl) (fun w hs => run_lenS (e := 27) rfl e41_19 (by kernel_rfl) (by omega) w) ?_
        intro F20 hA
        have hF : F20 = F19.put (some 42) (Value.int .i64 (n : Int)) := hA
        have hF20 := Lib.hid hF
        have e39_20 : F20.eval (.tmp 39) = Value.bool false := by rw [hF, ev_other (by decide)]; exact e39_19
        have e40_20 : F20.eval (.tmp 40) = Value.int .i64 (k : Int) := by rw [hF, ev_other (by decide)]; exact e40_19
        have e42_20 : F20.eval (.tmp 42) = Value.int .i64 (n : Int) := by rw [hF]; exact ev_same (by rw [z19]; decide)
        have z20 : F20.tmps.size = 58 := by rw [hF, put_size]; exact z19
        clear hF hA e39_19 e40_19 e41_19 z19
        refine takeH (i := 20) (oi := { dst := some 43, op := Go.Op.binOp Go.BinOp.geq 3 (Go.Operand.tmp 40) (Go.Operand.tmp 42) 3, type := 4, pos := "lent.go:292", after := #[{ on := 17, ground := Go.Ground.data }, { on := 19, ground := Go.Ground.data }, { on := 16, ground := Go.Ground.guard }], guard := some (16, false) }) (v := Value.bool false) rfl (by kernel_rfl) (by kernel_rfl) (by kernel_rfl) (fun _ _ _ h => h) HS (by rw [wanted_g (d := 39) rfl rfl e39_20 (by rw [z20]; decide)]; rfl) (fun w hs => by simp only [execOp, e40_20, e42_20]; go_simp) ?_
        intro F21 hA
        have hF : F21 = F20.put (some 43) (Value.bool false) := hA
        have hF21 := Lib.hid hF
        have e39_21 : F21.eval (.tmp 39) = Value.bool false := by rw [hF, ev_other (by decide)]; exact e39_20
        have e43_21 : F21.eval (.tmp 43) = Value.bool false := by rw [hF]; exact ev_same (by rw [z20]; decide)
        have z21 : F21.tmps.size = 58 := by rw [hF, put_size]; exact z20
        clear hF hA e39_20 e40_20 e42_20 z20
        refine takeH (i := 21) (oi := { dst := some 44, op := Go.Op.move (Go.Operand.tmp 43), type := 4, pos := "lent.go:292", after := #[{ on := 20, ground := Go.Ground.data }, { on := 16, ground := Go.Ground.chain }, { on := 16, ground := Go.Ground.guard }], guard := some (16, false) }) (v := Value.bool false) rfl (by kernel_rfl) (by kernel_rfl) (by kernel_rfl) (fun _ _ _ h => h) HS (by rw [wanted_g (d := 39) rfl rfl e39_21 (by rw [z21]; decide)]; rfl) (fun w hs => run_mv rfl e43_21 w) ?_
        intro F22 hA
        have hF : F22 = F21.put (some 44) (Value.bool false) := hA
        have hF22 := Lib.hid hF
        have e39_22 : F22.eval (.tmp 39) = Value.bool false := by rw [hF, ev_other (by decide)]; exact e39_21
        have e44_22 : F22.eval (.tmp 44) = Value.bool false := by rw [hF]; exact ev_same (by rw [z21]; decide)
        have z22 : F22.tmps.size = 58 := by rw [hF, put_size]; exact z21
        clear hF hA e39_21 e43_21 z21
        refine skipH (i := 22) (oi := { dst := some 45, op := Go.Op.move (Go.Operand.tmp 5), type := 32, pos := "lent.go:292", after := #[{ on := 21, ground := Go.Ground.guard }], guard := some (21, true) }) rfl (by kernel_rfl) (by kernel_rfl) (by kernel_rfl) (fun _ _ _ h => h) HS (by rw [wanted_g (d := 44) rfl rfl e44_22 (by rw [z22]; decide)]; rfl) ?_
        intro F23 hA
        have hF : F23 = F22.put (some 45) (undef) := hA
        have hF23 := Lib.hid hF
        have e39_23 : F23.eval (.tmp 39) = Value.bool false := by rw [hF, ev_other (by decide)]; exact e39_22
        have e44_23 : F23.eval (.tmp 44) = Value.bool false := by rw [hF, ev_other (by decide)]; exact e44_22
        have z23 : F23.tmps.size = 58 := by rw [hF, put_size]; exact z22
        clear hF hA e39_22 e44_22 z22
        refine skipH (i := 23) (oi := { dst := some 46, op := Go.Op.move (Go.Operand.tmp 6), type := 3, pos := "lent.go:292", after := #[{ on := 21, ground := Go.Ground.guard }], guard := some (21, true) }) rfl (by kernel_rfl) (by kernel_rfl) (by kernel_rfl) (fun _ _ _ h => h) HS (by rw [wanted_g (d := 44) rfl rfl e44_23 (by rw [z23]; decide)]; rfl) ?_
        intro F24 hA
        have hF : F24 = F23.put (some 46) (undef) := hA
        have hF24 := Lib.hid hF
        have e39_24 : F24.eval (.tmp 39) = Value.bool false := by rw [hF, ev_other (by decide)]; exact e39_23
        have e44_24 : F24.eval (.tmp 44) = Value.bool false := by rw [hF, ev_other (by decide)]; exact e44_23
        have z24 : F24.tmps.size = 58 := by rw [hF, put_size]; exact z23
        clear hF hA e39_23 e44_23 z23
        refine skipH (i := 24) (oi := { dst := some 47, op := Go.Op.indexAddr 32 (Go.Operand.tmp 45) (Go.Operand.tmp 46), type := 0, pos := "lent.go:292", after := #[{ on := 22, ground := Go.Ground.data }, { on := 23, ground := Go.Ground.data }, { on := 21, ground := Go.Ground.guard }], guard := some (21, true) }) rfl (by kernel_rfl) (by kernel_rfl) (by kernel_rfl) (fun _ _ _ h => h) HS (by rw [wanted_g (d := 44) rfl rfl e44_24 (by rw [z24]; decide)]; rfl) ?_
        intro F25 hA
        have hF : F25 = F24.put (some 47) (undef) := hA
        have hF25 := Lib.hid hF
        have e39_25 : F25.eval (.tmp 39) = Value.bool false := by rw [hF, ev_other (by decide)]; exact e39_24
        have e44_25 : F25.eval (.tmp 44) = Value.bool false := by rw [hF, ev_other (by decide)]; exact e44_24
        have z25 : F25.tmps.size = 58 := by rw [hF, put_size]; exact z24
        clear hF hA e39_24 e44_24 z24
        refine skipH (i := 25) (oi := { dst := some 48, op := Go.Op.load 27 (Go.Operand.tmp 47), type := 27, pos := "lent.go:292", after := #[{ on := 24, ground := Go.Ground.data }, { on := 21, ground := Go.Ground.guard }], guard := some (21, true) }) rfl (by kernel_rfl) (by kernel_rfl) (by kernel_rfl) (fun _ _ _ h => h) HS (by rw [wanted_g (d := 44) rfl rfl e44_25 (by rw [z25]; decide)]; rfl) ?_
        intro F26 hA
        have hF : F26 = F25.put (some 48) (undef) := hA
        have hF26 := Lib.hid hF
        have e39_26 : F26.eval (.tmp 39) = Value.bool false := by rw [hF, ev_other (by decide)]; exact e39_25
        have e44_26 : F26.eval (.tmp 44) = Value.bool false := by rw [hF, ev_other (by decide)]; exact e44_25
        have z26 : F26.tmps.size = 58 := by rw [hF, put_size]; exact z25
        clear hF hA e39_25 e44_25 z25
        refine skipH (i := 26) (oi := { dst := some 49, op := Go.Op.move (Go.Operand.tmp 6), type := 3, pos := "lent.go:292", after := #[{ on := 21, ground := Go.Ground.guard }], guard := some (21, true) }) rfl (by kernel_rfl) (by kernel_rfl) (by kernel_rfl) (fun _ _ _ h => h) HS (by rw [wanted_g (d := 44) rfl rfl e44_26 (by rw [z26]; decide)]; rfl) ?_
        intro F27 hA
        have hF : F27 = F26.put (some 49) (undef) := hA
        have hF27 := Lib.hid hF
        have e39_27 : F27.eval (.tmp 39) = Value.bool false := by rw [hF, ev_other (by decide)]; exact e39_26
        have e44_27 : F27.eval (.tmp 44) = Value.bool false := by rw [hF, ev_other (by decide)]; exact e44_26
        have z27 : F27.tmps.size = 58 := by rw [hF, put_size]; exact z26
        clear hF hA e39_26 e44_26 z26
        refine skipH (i := 27) (oi := { dst := some 50, op := Go.Op.move (Go.Operand.tmp 1), type := 32, pos := "lent.go:292", after := #[{ on := 21, ground := Go.Ground.guard }], guard := some (21, true) }) rfl (by kernel_rfl) (by kernel_rfl) (by kernel_rfl) (fun _ _ _ h => h) HS (by rw [wanted_g (d := 44) rfl rfl e44_27 (by rw [z27]; decide)]; rfl) ?_
        intro F28 hA
        have hF : F28 = F27.put (some 50) (undef) := hA
        have hF28 := Lib.hid hF
        have e39_28 : F28.eval (.tmp 39) = Value.bool false := by rw [hF, ev_other (by decide)]; exact e39_27
        have e44_28 : F28.eval (.tmp 44) = Value.bool false := by rw [hF, ev_other (by decide)]; exact e44_27
        have z28 : F28.tmps.size = 58 := by rw [hF, put_size]; exact z27
        clear hF hA e39_27 e44_27 z27
        refine skipH (i := 28) (oi := { dst := some 51, op := Go.Op.call { callee := Go.Callee.builtin Go.Builtin.len, args := #[Go.Operand.tmp 50], argTypes := #[32] }, type := 3, pos := "lent.go:292", after := #[{ on := 27, ground := Go.Ground.data }, { on := 21, ground := Go.Ground.guard }], guard := some (21, true) }) rfl (by kernel_rfl) (by kernel_rfl) (by kernel_rfl) (fun _ _ _ h => h) HS (by rw [wanted_g (d := 44) rfl rfl e44_28 (by rw [z28]; decide)]; rfl) ?_
        intro F29 hA
        have hF : F29 = F28.put (some 51) (undef) := hA
        have hF29 := Lib.hid hF
        have e39_29 : F29.eval (.tmp 39) = Value.bool false := by rw [hF, ev_other (by decide)]; exact e39_28
        have e44_29 : F29.eval (.tmp 44) = Value.bool false := by rw [hF, ev_other (by decide)]; exact e44_28
        have z29 : F29.tmps.size = 58 := by rw [hF, put_size]; exact z28
        clear hF hA e39_28 e44_28 z28
        refine skipH (i := 29) (oi := { dst := some 52, op := Go.Op.binOp Go.BinOp.sub 3 (Go.Operand.tmp 49) (Go.Operand.tmp 51) 3, type := 3, pos := "lent.go:292", after := #[{ on := 26, ground := Go.Ground.data }, { on := 28, ground := Go.Ground.data }, { on := 21, ground := Go.Ground.guard }], guard := some (21, true) }) rfl (by kernel_rfl) (by kernel_rfl) (by kernel_rfl) (fun _ _ _ h => h) HS (by rw [wanted_g (d := 44) rfl rfl e44_29 (by rw [z29]; decide)]; rfl) ?_
        intro F30 hA
        have hF : F30 = F29.put (some 52) (undef) := hA
        have hF30 := Lib.hid hF
        have e39_30 : F30.eval (.tmp 39) = Value.bool false := by rw [hF, ev_other (by decide)]; exact e39_29
        have e44_30 : F30.eval (.tmp 44) = Value.bool false := by rw [hF, ev_other (by decide)]; exact e44_29
        have z30 : F30.tmps.size = 58 := by rw [hF, put_size]; exact z29
        clear hF hA e39_29 e44_29 z29
        refine skipH (i := 30) (oi := { dst := some 53, op := Go.Op.call { callee := Go.Callee.value (Go.Operand.func 29), args := #[Go.Operand.const (Go.Value.int Go.IntKind.i64 1), Go.Operand.tmp 52], argTypes := #[3, 3] }, type := 27, pos := "lent.go:292", after := #[{ on := 29, ground := Go.Ground.data }, { on := 21, ground := Go.Ground.chain }, { on := 21, ground := Go.Ground.guard }], guard := some (21, true) }) rfl (by kernel_rfl) (by kernel_rfl) (by kernel_rfl) (fun _ _ _ h => h) HS (by rw [wanted_g (d := 44) rfl rfl e44_30 (by rw [z30]; decide)]; rfl) ?_
        intro F31 hA
        have hF : F31 = F30.put (some 53) (undef) := hA
        have hF31 := Lib.hid hF
        have e39_31 : F31.eval (.tmp 39) = Value.bool false := by rw [hF, ev_other (by decide)]; exact e39_30
        have e44_31 : F31.eval (.tmp 44) = Value.bool false := by rw [hF, ev_other (by decide)]; exact e44_30
        have z31 : F31.tmps.size = 58 := by rw [hF, put_size]; exact z30
        clear hF hA e39_30 e44_30 z30
        refine skipH (i := 31) (oi := { dst := some 54, op := Go.Op.binOp Go.BinOp.eql 27 (Go.Operand.tmp 48) (Go.Operand.tmp 53) 27, type := 4, pos := "lent.go:292", after := #[{ on := 25, ground := Go.Ground.data }, { on := 30, ground := Go.Ground.data }, { on := 21, ground := Go.Ground.guard }], guard := some (21, true) }) rfl (by kernel_rfl) (by kernel_rfl) (by kernel_rfl) (fun _ _ _ h => h) HS (by rw [wanted_g (d := 44) rfl rfl e44_31 (by rw [z31]; decide)]; rfl) ?_
        intro F32 hA
        have hF : F32 = F31.put (some 54) (undef) := hA
        have hF32 := Lib.hid hF
        have e39_32 : F32.eval (.tmp 39) = Value.bool false := by rw [hF, ev_other (by decide)]; exact e39_31
        have e44_32 : F32.eval (.tmp 44) = Value.bool false := by rw [hF, ev_other (by decide)]; exact e44_31
        have z32 : F32.tmps.size = 58 := by rw [hF, put_size]; exact z31
        clear hF hA e39_31 e44_31 z31
        refine skipH (i := 32) (oi := { dst := some 55, op := Go.Op.unOp Go.UnOp.not 4 (Go.Operand.tmp 54), type := 4, pos := "lent.go:292", after := #[{ on := 31, ground := Go.Ground.data }, { on := 21, ground := Go.Ground.guard }], guard := some (21, true) }) rfl (by kernel_rfl) (by kernel_rfl) (by kernel_rfl) (fun _ _ _ h => h) HS (by rw [wanted_g (d := 44) rfl rfl e44_32 (by rw [z32]; decide)]; rfl) ?_
        intro F33 hA
        have hF : F33 = F32.put (some 55) (undef) := hA
        have hF33 := Lib.hid hF
        have e39_33 : F33.eval (.tmp 39) = Value.bool false := by rw [hF, ev_other (by decide)]; exact e39_32
        have e44_33 : F33.eval (.tmp 44) = Value.bool false := by rw [hF, ev_other (by decide)]; exact e44_32
        have e55_33 : F33.eval (.tmp 55) = undef := by rw [hF]; exact ev_same (by rw [z32]; decide)
        have z33 : F33.tmps.size = 58 := by rw [hF, put_size]; exact z32
        clear hF hA e39_32 e44_32 z32
        refine takeH (i := 33) (oi := { dst := some 56, op := Go.Op.pick (Go.Operand.tmp 44) (Go.Operand.tmp 55) (Go.Operand.const (Go.Value.bool false)), type := 4, pos := "lent.go:292", after := #[{ on := 21, ground := Go.Ground.data }, { on := 32, ground := Go.Ground.data }, { on := 16, ground := Go.Ground.guard }], guard := some (16, false) }) (v := Value.bool false) rfl (by kernel_rfl) (by kernel_rfl) (by kernel_rfl) (fun _ _ _ h => h) HS (by rw [wanted_g (d := 39) rfl rfl e39_33 (by rw [z33]; decide)]; rfl) (fun w hs => by simp only [execOp, e44_33, e55_33]; go_simp) ?_
        intro F34 hA
        have hF : F34 = F33.put (some 56) (Value.bool false) := hA
        have hF34 := Lib.hid hF
        have e39_34 : F34.eval (.tmp 39) = Value.bool false := by rw [hF, ev_other (by decide)]; exact e39_33
        have e56_34 : F34.eval (.tmp 56) = Value.bool false := by rw [hF]; exact ev_same (by rw [z33]; decide)
        have z34 : F34.tmps.size = 58 := by rw [hF, put_size]; exact z33
        clear hF hA e39_33 e44_33 e55_33 z33
        refine takeH (i := 34) (oi := { dst := some 57, op := Go.Op.pick (Go.Operand.tmp 39) (Go.Operand.const (Go.Value.bool true)) (Go.Operand.tmp 56), type := 4, pos := "lent.go:292", after := #[{ on := 16, ground := Go.Ground.data }, { on := 33, ground := Go.Ground.data }], guard := none }) (v := Value.bool false) rfl (by kernel_rfl) (by kernel_rfl) (by kernel_rfl) (fun _ _ _ h => h) HS (wanted_n rfl) (fun w hs => by simp only [execOp, e39_34, e56_34]; go_simp) ?_
        intro F35 hA
        have hF : F35 = F34.put (some 57) (Value.bool false) := hA
        have hF35 := Lib.hid hF
        have z35 : F35.tmps.size = 58 := by rw [hF, put_size]; exact z34
        clear hF hA e39_34 e56_34 z34
        refine wpAnyH_done (by kernel_rfl) ?_ _
        have hE : F35 = (⟨#[Value.slice (some ⟨g, off, none⟩) n c, Value.slice (some ⟨b, o2, none⟩) n vc, undef, undef, u4, Value.slice (some ⟨g, off, none⟩) (n + 12) c, Value.int .i64 (k : Int), Value.slice (some ⟨g, off, none⟩) n c, Value.int .i64 (n : Int), Value.slice (some ⟨b, o2, none⟩) n vc, Value.int .i64 (n : Int), Value.bool false, Value.slice (some ⟨g, off, none⟩) n c, Value.slice (some ⟨b, o2, none⟩) n vc, Value.int .i64 (n : Int), Value.int .i64 ((n : Int) + 12), Value.slice (some ⟨g, off, none⟩) (n + 12) c, Value.int .i64 (k : Int), Value.slice (some ⟨g, off, none⟩) (n + 12) c, Value.int .i64 ((n : Int) + 12), Value.bool true, u21, u22, Value.int .i64 (k : Int), Value.slice (some ⟨b, o2, none⟩) n vc, Value.int .i64 (n : Int), Value.bool true, Value.bool true, Value.slice (some ⟨g, off, none⟩) (n + 12) c, Value.int .i64 (k : Int), Value.pointer (some ⟨g, off + k * 32, none⟩), Value.agg (u8s x).toArray, Value.slice (some ⟨b, o2, none⟩) n vc, Value.int .i64 (k : Int), Value.pointer (some ⟨b, o2 + k * 32, none⟩), Value.agg (u8s x).toArray, Value.bool true, Value.bool false, Value.bool false, Value.bool false, Value.int .i64 (k : Int), Value.slice (some ⟨b, o2, none⟩) n vc, Value.int .i64 (n : Int), Value.bool false, Value.bool false, undef, undef, undef, undef, undef, undef, undef, undef, undef, undef, undef, Value.bool false, Value.bool false], []⟩ : Act) := by
          rw [hF35.out, hF34.out, hF33.out, hF32.out, hF31.out, hF30.out, hF29.out, hF28.out, hF27.out, hF26.out, hF25.out, hF24.out, hF23.out, hF22.out, hF21.out, hF20.out, hF19.out, hF18.out, hF17.out, hF16.out, hF15.out, hF14.out, hF13.out, hF12.out, hF11.out, hF10.out, hF9.out, hF8.out, hF7.out, hF6.out, hF5.out, hF4.out, hF3.out, hF2.out, hF1.out, hF0.out]
          kernel_rfl
        rw [hE]
        go_wp2_with fail
        refine ⟨⟨k + 1, by omega, by go_num, HB0.out⟩, ?_⟩
        simp [intOf]; omega
      · obtain ⟨x, hx⟩ : ∃ x, x = mkh 1 (k - n) := ⟨_, rfl⟩
        have hxl : x.length = 32 := by rw [hx]; rfl
        have hm := fun w => markHash_any 1 (k - n) (by omega) (by omega) w
        have c0 : wr.rangeAt g (off + k * 32) (u8s x) := rangeAt_qt (HRA.out k x (by
          rw [List.getElem?_append_right (by rw [← HNN.out]; omega), ← HNN.out, mkhs, List.getElem?_map, List.getElem?_range (by omega), hx]; rfl)) HB.out
        rw [← hx] at hm
        have HM := Lib.hid hm
        have heq := eqH32 x hxl
        have HI := Lib.hid (show ((Try.prog).info? 27).map (·.size) = some (u8s x).length from by rw [u8s_len, hxl]; kernel_rfl)
        clear hx hm hxl
        have i1 : ¬ (k : Int) < (n : Int) := by omega
        have i2 : (0 : Int) ≤ (k : Int) := by omega
        have i3 : (k : Int) < (n : Int) + 12 := by omega
        have i4 : IntKind.i64.wrap ((k : Int) - (n : Int)) = ((k - n : Nat) : Int) := by rw [IntWalk.i64_in _ (by omega)]; omega
        have d1 : decide (n ≤ k) = true := by simp; omega
        have d2 : decide (k < n) = false := by simp; omega
        go_wp2_with fail
        -- MARKB
        refine wp_region_held (S := (fun w' => w'.rangeAt g (off + k * 32) (u8s x))) (by kernel_rfl) ?_
        change wpAnyH _ _ _ _ _ _ _ _ (World.drew _)
        refine gen_frameH fun F0 hA => ?_
        have e1_0 : F0.eval (.tmp 1) = Value.slice va n vc := by rw [hA]; rfl
        have e5_0 : F0.eval (.tmp 5) = Value.slice (some ⟨g, off, none⟩) (n + 12) c := by rw [hA]; rfl
        have e6_0 : F0.eval (.tmp 6) = Value.int .i64 (k : Int) := by rw [hA]; rfl
        have z0 : F0.tmps.size = 58 := by rw [hA]; rfl
        have hF0 := Lib.hid hA
        clear hA
        generalize hW : World.drew _ = W0
        have HS : W0.rangeAt g (off + k * 32) (u8s x) := by rw [← hW]; exact c0
        have HB0 := Lib.hid (show Below w.heap.size w W0 from by rw [← hW]; exact HB.out.drew)
        clear hW
        refine takeH (i := 0) (oi := { dst := some 23, op := Go.Op.move (Go.Operand.tmp 6), type := 3, pos := "lent.go:292", after := #[], guard := none }) (v := Value.int .i64 (k : Int)) rfl (by kernel_rfl) (by kernel_rfl) (by kernel_rfl) (fun _ _ _ h => h) HS (wanted_n rfl) (fun w hs => run_mv rfl e6_0 w) ?_
        intro F1 hA
        have hF : F1 = F0.put (some 23) (Value.int .i64 (k : Int)) := hA
        have hF1 := Lib.hid hF
        have e1_1 : F1.eval (.tmp 1) = Value.slice va n vc := by rw [hF, ev_other (by decide)]; exact e1_0
        have e5_1 : F1.eval (.tmp 5) = Value.slice (some ⟨g, off, none⟩) (n + 12) c := by rw [hF, ev_other (by decide)]; exact e5_0
        have e6_1 : F1.eval (.tmp 6) = Value.int .i64 (k : Int) := by rw [hF, ev_other (by decide)]; exact e6_0
        have e23_1 : F1.eval (.tmp 23) = Value.int .i64 (k : Int) := by rw [hF]; exact ev_same (by rw [z0]; decide)
        have z1 : F1.tmps.size = 58 := by rw [hF, put_size]; exact z0
        clear hF hA e1_0 e5_0 e6_0 z0
        refine takeH (i := 1) (oi := { dst := some 24, op := Go.Op.move (Go.Operand.tmp 1), type := 32, pos := "lent.go:292", after := #[], guard := none }) (v := Value.slice va n vc) rfl (by kernel_rfl) (by kernel_rfl) (by kernel_rfl) (fun _ _ _ h => h) HS (wanted_n rfl) (fun w hs => run_mv rfl e1_1 w) ?_
        intro F2 hA
        have hF : F2 = F1.put (some 24) (Value.slice va n vc) := hA
        have hF2 := Lib.hid hF
        have e1_2 : F2.eval (.tmp 1) = Value.slice va n vc := by rw [hF, ev_other (by decide)]; exact e1_1
        have e5_2 : F2.eval (.tmp 5) = Value.slice (some ⟨g, off, none⟩) (n + 12) c := by rw [hF, ev_other (by decide)]; exact e5_1
        have e6_2 : F2.eval (.tmp 6) = Value.int .i64 (k : Int) := by rw [hF, ev_other (by decide)]; exact e6_1
        have e23_2 : F2.eval (.tmp 23) = Value.int .i64 (k : Int) := by rw [hF, ev_other (by decide)]; exact e23_1
        have e24_2 : F2.eval (.tmp 24) = Value.slice va n vc := by rw [hF]; exact ev_same (by rw [z1]; decide)
        have z2 : F2.tmps.size = 58 := by rw [hF, put_size]; exact z1
        clear hF hA e1_1 e5_1 e6_1 e23_1 z1
        refine takeH (i := 2) (oi := { dst := some 25, op := Go.Op.call { callee := Go.Callee.builtin Go.Builtin.len, args := #[Go.Operand.tmp 24], argTypes := #[32] }, type := 3, pos := "lent.go:292", after := #[{ on := 1, ground := Go.Ground.data }], guard := none }) (v := Value.int .i64 (n : Int)) rfl (by kernel_rfl) (by kernel_rfl) (by kernel_rfl) (fun _ _ _ h => h) HS (wanted_n rfl) (fun w hs => run_lenS (e := 27) rfl e24_2 (by kernel_rfl) (by omega) w) ?_
        intro F3 hA
        have hF : F3 = F2.put (some 25) (Value.int .i64 (n : Int)) := hA
        have hF3 := Lib.hid hF
        have e1_3 : F3.eval (.tmp 1) = Value.slice va n vc := by rw [hF, ev_other (by decide)]; exact e1_2
        have e5_3 : F3.eval (.tmp 5) = Value.slice (some ⟨g, off, none⟩) (n + 12) c := by rw [hF, ev_other (by decide)]; exact e5_2
        have e6_3 : F3.eval (.tmp 6) = Value.int .i64 (k : Int) := by rw [hF, ev_other (by decide)]; exact e6_2
        have e23_3 : F3.eval (.tmp 23) = Value.int .i64 (k : Int) := by rw [hF, ev_other (by decide)]; exact e23_2
        have e25_3 : F3.eval (.tmp 25) = Value.int .i64 (n : Int) := by rw [hF]; exact ev_same (by rw [z2]; decide)
        have z3 : F3.tmps.size = 58 := by rw [hF, put_size]; exact z2
        clear hF hA e1_2 e5_2 e6_2 e23_2 e24_2 z2
        refine takeH (i := 3) (oi := { dst := some 26, op := Go.Op.binOp Go.BinOp.lss 3 (Go.Operand.tmp 23) (Go.Operand.tmp 25) 3, type := 4, pos := "lent.go:292", after := #[{ on := 0, ground := Go.Ground.data }, { on := 2, ground := Go.Ground.data }], guard := none }) (v := Value.bool false) rfl (by kernel_rfl) (by kernel_rfl) (by kernel_rfl) (fun _ _ _ h => h) HS (wanted_n rfl) (fun w hs => by simp only [execOp, e23_3, e25_3]; go_simp) ?_
        intro F4 hA
        have hF : F4 = F3.put (some 26) (Value.bool false) := hA
        have hF4 := Lib.hid hF
        have e1_4 : F4.eval (.tmp 1) = Value.slice va n vc := by rw [hF, ev_other (by decide)]; exact e1_3
        have e5_4 : F4.eval (.tmp 5) = Value.slice (some ⟨g, off, none⟩) (n + 12) c := by rw [hF, ev_other (by decide)]; exact e5_3
        have e6_4 : F4.eval (.tmp 6) = Value.int .i64 (k : Int) := by rw [hF, ev_other (by decide)]; exact e6_3
        have e26_4 : F4.eval (.tmp 26) = Value.bool false := by rw [hF]; exact ev_same (by rw [z3]; decide)
        have z4 : F4.tmps.size = 58 := by rw [hF, put_size]; exact z3
        clear hF hA e1_3 e5_3 e6_3 e23_3 e25_3 z3
        refine takeH (i := 4) (oi := { dst := some 27, op := Go.Op.move (Go.Operand.tmp 26), type := 4, pos := "lent.go:292", after := #[{ on := 3, ground := Go.Ground.data }], guard := none }) (v := Value.bool false) rfl (by kernel_rfl) (by kernel_rfl) (by kernel_rfl) (fun _ _ _ h => h) HS (wanted_n rfl) (fun w hs => run_mv rfl e26_4 w) ?_
        intro F5 hA
        have hF : F5 = F4.put (some 27) (Value.bool false) := hA
        have hF5 := Lib.hid hF
        have e1_5 : F5.eval (.tmp 1) = Value.slice va n vc := by rw [hF, ev_other (by decide)]; exact e1_4
        have e5_5 : F5.eval (.tmp 5) = Value.slice (some ⟨g, off, none⟩) (n + 12) c := by rw [hF, ev_other (by decide)]; exact e5_4
        have e6_5 : F5.eval (.tmp 6) = Value.int .i64 (k : Int) := by rw [hF, ev_other (by decide)]; exact e6_4
        have e27_5 : F5.eval (.tmp 27) = Value.bool false := by rw [hF]; exact ev_same (by rw [z4]; decide)
        have z5 : F5.tmps.size = 58 := by rw [hF, put_size]; exact z4
        clear hF hA e1_4 e5_4 e6_4 e26_4 z4
        refine skipH (i := 5) (oi := { dst := some 28, op := Go.Op.move (Go.Operand.tmp 5), type := 32, pos := "lent.go:292", after := #[{ on := 4, ground := Go.Ground.guard }], guard := some (4, true) }) rfl (by kernel_rfl) (by kernel_rfl) (by kernel_rfl) (fun _ _ _ h => h) HS (by rw [wanted_g (d := 27) rfl rfl e27_5 (by rw [z5]; decide)]; rfl) ?_
        intro F6 hA
        have hF : F6 = F5.put (some 28) (undef) := hA
        have hF6 := Lib.hid hF
        have e1_6 : F6.eval (.tmp 1) = Value.slice va n vc := by rw [hF, ev_other (by decide)]; exact e1_5
        have e5_6 : F6.eval (.tmp 5) = Value.slice (some ⟨g, off, none⟩) (n + 12) c := by rw [hF, ev_other (by decide)]; exact e5_5
        have e6_6 : F6.eval (.tmp 6) = Value.int .i64 (k : Int) := by rw [hF, ev_other (by decide)]; exact e6_5
        have e27_6 : F6.eval (.tmp 27) = Value.bool false := by rw [hF, ev_other (by decide)]; exact e27_5
        have z6 : F6.tmps.size = 58 := by rw [hF, put_size]; exact z5
        clear hF hA e1_5 e5_5 e6_5 e27_5 z5
        refine skipH (i := 6) (oi := { dst := some 29, op := Go.Op.move (Go.Operand.tmp 6), type := 3, pos := "lent.go:292", after := #[{ on := 4, ground := Go.Ground.guard }], guard := some (4, true) }) rfl (by kernel_rfl) (by kernel_rfl) (by kernel_rfl) (fun _ _ _ h => h) HS (by rw [wanted_g (d := 27) rfl rfl e27_6 (by rw [z6]; decide)]; rfl) ?_
        intro F7 hA
        have hF : F7 = F6.put (some 29) (undef) := hA
        have hF7 := Lib.hid hF
        have e1_7 : F7.eval (.tmp 1) = Value.slice va n vc := by rw [hF, ev_other (by decide)]; exact e1_6
        have e5_7 : F7.eval (.tmp 5) = Value.slice (some ⟨g, off, none⟩) (n + 12) c := by rw [hF, ev_other (by decide)]; exact e5_6
        have e6_7 : F7.eval (.tmp 6) = Value.int .i64 (k : Int) := by rw [hF, ev_other (by decide)]; exact e6_6
        have e27_7 : F7.eval (.tmp 27) = Value.bool false := by rw [hF, ev_other (by decide)]; exact e27_6
        have z7 : F7.tmps.size = 58 := by rw [hF, put_size]; exact z6
        clear hF hA e1_6 e5_6 e6_6 e27_6 z6
        refine skipH (i := 7) (oi := { dst := some 30, op := Go.Op.indexAddr 32 (Go.Operand.tmp 28) (Go.Operand.tmp 29), type := 0, pos := "lent.go:292", after := #[{ on := 5, ground := Go.Ground.data }, { on := 6, ground := Go.Ground.data }, { on := 4, ground := Go.Ground.guard }], guard := some (4, true) }) rfl (by kernel_rfl) (by kernel_rfl) (by kernel_rfl) (fun _ _ _ h => h) HS (by rw [wanted_g (d := 27) rfl rfl e27_7 (by rw [z7]; decide)]; rfl) ?_
        intro F8 hA
        have hF : F8 = F7.put (some 30) (undef) := hA
        have hF8 := Lib.hid hF
        have e1_8 : F8.eval (.tmp 1) = Value.slice va n vc := by rw [hF, ev_other (by decide)]; exact e1_7
        have e5_8 : F8.eval (.tmp 5) = Value.slice (some ⟨g, off, none⟩) (n + 12) c := by rw [hF, ev_other (by decide)]; exact e5_7
        have e6_8 : F8.eval (.tmp 6) = Value.int .i64 (k : Int) := by rw [hF, ev_other (by decide)]; exact e6_7
        have e27_8 : F8.eval (.tmp 27) = Value.bool false := by rw [hF, ev_other (by decide)]; exact e27_7
        have z8 : F8.tmps.size = 58 := by rw [hF, put_size]; exact z7
        clear hF hA e1_7 e5_7 e6_7 e27_7 z7
        refine skipH (i := 8) (oi := { dst := some 31, op := Go.Op.load 27 (Go.Operand.tmp 30), type := 27, pos := "lent.go:292", after := #[{ on := 7, ground := Go.Ground.data }, { on := 4, ground := Go.Ground.guard }], guard := some (4, true) }) rfl (by kernel_rfl) (by kernel_rfl) (by kernel_rfl) (fun _ _ _ h => h) HS (by rw [wanted_g (d := 27) rfl rfl e27_8 (by rw [z8]; decide)]; rfl) ?_
        intro F9 hA
        have hF : F9 = F8.put (some 31) (undef) := hA
        have hF9 := Lib.hid hF
        have e1_9 : F9.eval (.tmp 1) = Value.slice va n vc := by rw [hF, ev_other (by decide)]; exact e1_8
        have e5_9 : F9.eval (.tmp 5) = Value.slice (some ⟨g, off, none⟩) (n + 12) c := by rw [hF, ev_other (by decide)]; exact e5_8
        have e6_9 : F9.eval (.tmp 6) = Value.int .i64 (k : Int) := by rw [hF, ev_other (by decide)]; exact e6_8
        have e27_9 : F9.eval (.tmp 27) = Value.bool false := by rw [hF, ev_other (by decide)]; exact e27_8
        have z9 : F9.tmps.size = 58 := by rw [hF, put_size]; exact z8
        clear hF hA e1_8 e5_8 e6_8 e27_8 z8
        refine skipH (i := 9) (oi := { dst := some 32, op := Go.Op.move (Go.Operand.tmp 1), type := 32, pos := "lent.go:292", after := #[{ on := 4, ground := Go.Ground.guard }], guard := some (4, true) }) rfl (by kernel_rfl) (by kernel_rfl) (by kernel_rfl) (fun _ _ _ h => h) HS (by rw [wanted_g (d := 27) rfl rfl e27_9 (by rw [z9]; decide)]; rfl) ?_
        intro F10 hA
        have hF : F10 = F9.put (some 32) (undef) := hA
        have hF10 := Lib.hid hF
        have e1_10 : F10.eval (.tmp 1) = Value.slice va n vc := by rw [hF, ev_other (by decide)]; exact e1_9
        have e5_10 : F10.eval (.tmp 5) = Value.slice (some ⟨g, off, none⟩) (n + 12) c := by rw [hF, ev_other (by decide)]; exact e5_9
        have e6_10 : F10.eval (.tmp 6) = Value.int .i64 (k : Int) := by rw [hF, ev_other (by decide)]; exact e6_9
        have e27_10 : F10.eval (.tmp 27) = Value.bool false := by rw [hF, ev_other (by decide)]; exact e27_9
        have z10 : F10.tmps.size = 58 := by rw [hF, put_size]; exact z9
        clear hF hA e1_9 e5_9 e6_9 e27_9 z9
        refine skipH (i := 10) (oi := { dst := some 33, op := Go.Op.move (Go.Operand.tmp 6), type := 3, pos := "lent.go:292", after := #[{ on := 4, ground := Go.Ground.guard }], guard := some (4, true) }) rfl (by kernel_rfl) (by kernel_rfl) (by kernel_rfl) (fun _ _ _ h => h) HS (by rw [wanted_g (d := 27) rfl rfl e27_10 (by rw [z10]; decide)]; rfl) ?_
        intro F11 hA
        have hF : F11 = F10.put (some 33) (undef) := hA
        have hF11 := Lib.hid hF
        have e1_11 : F11.eval (.tmp 1) = Value.slice va n vc := by rw [hF, ev_other (by decide)]; exact e1_10
        have e5_11 : F11.eval (.tmp 5) = Value.slice (some ⟨g, off, none⟩) (n + 12) c := by rw [hF, ev_other (by decide)]; exact e5_10
        have e6_11 : F11.eval (.tmp 6) = Value.int .i64 (k : Int) := by rw [hF, ev_other (by decide)]; exact e6_10
        have e27_11 : F11.eval (.tmp 27) = Value.bool false := by rw [hF, ev_other (by decide)]; exact e27_10
        have z11 : F11.tmps.size = 58 := by rw [hF, put_size]; exact z10
        clear hF hA e1_10 e5_10 e6_10 e27_10 z10
        refine skipH (i := 11) (oi := { dst := some 34, op := Go.Op.indexAddr 32 (Go.Operand.tmp 32) (Go.Operand.tmp 33), type := 0, pos := "lent.go:292", after := #[{ on := 9, ground := Go.Ground.data }, { on := 10, ground := Go.Ground.data }, { on := 4, ground := Go.Ground.guard }], guard := some (4, true) }) rfl (by kernel_rfl) (by kernel_rfl) (by kernel_rfl) (fun _ _ _ h => h) HS (by rw [wanted_g (d := 27) rfl rfl e27_11 (by rw [z11]; decide)]; rfl) ?_
        intro F12 hA
        have hF : F12 = F11.put (some 34) (undef) := hA
        have hF12 := Lib.hid hF
        have e1_12 : F12.eval (.tmp 1) = Value.slice va n vc := by rw [hF, ev_other (by decide)]; exact e1_11
        have e5_12 : F12.eval (.tmp 5) = Value.slice (some ⟨g, off, none⟩) (n + 12) c := by rw [hF, ev_other (by decide)]; exact e5_11
        have e6_12 : F12.eval (.tmp 6) = Value.int .i64 (k : Int) := by rw [hF, ev_other (by decide)]; exact e6_11
        have e27_12 : F12.eval (.tmp 27) = Value.bool false := by rw [hF, ev_other (by decide)]; exact e27_11
        have z12 : F12.tmps.size = 58 := by rw [hF, put_size]; exact z11
        clear hF hA e1_11 e5_11 e6_11 e27_11 z11
        refine skipH (i := 12) (oi := { dst := some 35, op := Go.Op.load 27 (Go.Operand.tmp 34), type := 27, pos := "lent.go:292", after := #[{ on := 11, ground := Go.Ground.data }, { on := 4, ground := Go.Ground.guard }], guard := some (4, true) }) rfl (by kernel_rfl) (by kernel_rfl) (by kernel_rfl) (fun _ _ _ h => h) HS (by rw [wanted_g (d := 27) rfl rfl e27_12 (by rw [z12]; decide)]; rfl) ?_
        intro F13 hA
        have hF : F13 = F12.put (some 35) (undef) := hA
        have hF13 := Lib.hid hF
        have e1_13 : F13.eval (.tmp 1) = Value.slice va n vc := by rw [hF, ev_other (by decide)]; exact e1_12
        have e5_13 : F13.eval (.tmp 5) = Value.slice (some ⟨g, off, none⟩) (n + 12) c := by rw [hF, ev_other (by decide)]; exact e5_12
        have e6_13 : F13.eval (.tmp 6) = Value.int .i64 (k : Int) := by rw [hF, ev_other (by decide)]; exact e6_12
        have e27_13 : F13.eval (.tmp 27) = Value.bool false := by rw [hF, ev_other (by decide)]; exact e27_12
        have z13 : F13.tmps.size = 58 := by rw [hF, put_size]; exact z12
        clear hF hA e1_12 e5_12 e6_12 e27_12 z12
        refine skipH (i := 13) (oi := { dst := some 36, op := Go.Op.binOp Go.BinOp.eql 27 (Go.Operand.tmp 31) (Go.Operand.tmp 35) 27, type := 4, pos := "lent.go:292", after := #[{ on := 8, ground := Go.Ground.data }, { on := 12, ground := Go.Ground.data }, { on := 4, ground := Go.Ground.guard }], guard := some (4, true) }) rfl (by kernel_rfl) (by kernel_rfl) (by kernel_rfl) (fun _ _ _ h => h) HS (by rw [wanted_g (d := 27) rfl rfl e27_13 (by rw [z13]; decide)]; rfl) ?_
        intro F14 hA
        have hF : F14 = F13.put (some 36) (undef) := hA
        have hF14 := Lib.hid hF
        have e1_14 : F14.eval (.tmp 1) = Value.slice va n vc := by rw [hF, ev_other (by decide)]; exact e1_13
        have e5_14 : F14.eval (.tmp 5) = Value.slice (some ⟨g, off, none⟩) (n + 12) c := by rw [hF, ev_other (by decide)]; exact e5_13
        have e6_14 : F14.eval (.tmp 6) = Value.int .i64 (k : Int) := by rw [hF, ev_other (by decide)]; exact e6_13
        have e27_14 : F14.eval (.tmp 27) = Value.bool false := by rw [hF, ev_other (by decide)]; exact e27_13
        have z14 : F14.tmps.size = 58 := by rw [hF, put_size]; exact z13
        clear hF hA e1_13 e5_13 e6_13 e27_13 z13
        refine skipH (i := 14) (oi := { dst := some 37, op := Go.Op.unOp Go.UnOp.not 4 (Go.Operand.tmp 36), type := 4, pos := "lent.go:292", after := #[{ on := 13, ground := Go.Ground.data }, { on := 4, ground := Go.Ground.guard }], guard := some (4, true) }) rfl (by kernel_rfl) (by kernel_rfl) (by kernel_rfl) (fun _ _ _ h => h) HS (by rw [wanted_g (d := 27) rfl rfl e27_14 (by rw [z14]; decide)]; rfl) ?_
        intro F15 hA
        have hF : F15 = F14.put (some 37) (undef) := hA
        have hF15 := Lib.hid hF
        have e1_15 : F15.eval (.tmp 1) = Value.slice va n vc := by rw [hF, ev_other (by decide)]; exact e1_14
        have e5_15 : F15.eval (.tmp 5) = Value.slice (some ⟨g, off, none⟩) (n + 12) c := by rw [hF, ev_other (by decide)]; exact e5_14
        have e6_15 : F15.eval (.tmp 6) = Value.int .i64 (k : Int) := by rw [hF, ev_other (by decide)]; exact e6_14
        have e27_15 : F15.eval (.tmp 27) = Value.bool false := by rw [hF, ev_other (by decide)]; exact e27_14
        have e37_15 : F15.eval (.tmp 37) = undef := by rw [hF]; exact ev_same (by rw [z14]; decide)
        have z15 : F15.tmps.size = 58 := by rw [hF, put_size]; exact z14
        clear hF hA e1_14 e5_14 e6_14 e27_14 z14
        refine takeH (i := 15) (oi := { dst := some 38, op := Go.Op.pick (Go.Operand.tmp 27) (Go.Operand.tmp 37) (Go.Operand.const (Go.Value.bool false)), type := 4, pos := "lent.go:292", after := #[{ on := 4, ground := Go.Ground.data }, { on := 14, ground := Go.Ground.data }], guard := none }) (v := Value.bool false) rfl (by kernel_rfl) (by kernel_rfl) (by kernel_rfl) (fun _ _ _ h => h) HS (wanted_n rfl) (fun w hs => by simp only [execOp, e27_15, e37_15]; go_simp) ?_
        intro F16 hA
        have hF : F16 = F15.put (some 38) (Value.bool false) := hA
        have hF16 := Lib.hid hF
        have e1_16 : F16.eval (.tmp 1) = Value.slice va n vc := by rw [hF, ev_other (by decide)]; exact e1_15
        have e5_16 : F16.eval (.tmp 5) = Value.slice (some ⟨g, off, none⟩) (n + 12) c := by rw [hF, ev_other (by decide)]; exact e5_15
        have e6_16 : F16.eval (.tmp 6) = Value.int .i64 (k : Int) := by rw [hF, ev_other (by decide)]; exact e6_15
        have e38_16 : F16.eval (.tmp 38) = Value.bool false := by rw [hF]; exact ev_same (by rw [z15]; decide)
        have z16 : F16.tmps.size = 58 := by rw [hF, put_size]; exact z15
        clear hF hA e1_15 e5_15 e6_15 e27_15 e37_15 z15
        refine takeH (i := 16) (oi := { dst := some 39, op := Go.Op.move (Go.Operand.tmp 38), type := 4, pos := "lent.go:292", after := #[{ on := 15, ground := Go.Ground.data }, { on := 4, ground := Go.Ground.chain }], guard := none }) (v := Value.bool false) rfl (by kernel_rfl) (by kernel_rfl) (by kernel_rfl) (fun _ _ _ h => h) HS (wanted_n rfl) (fun w hs => run_mv rfl e38_16 w) ?_
        intro F17 hA
        have hF : F17 = F16.put (some 39) (Value.bool false) := hA
        have hF17 := Lib.hid hF
        have e1_17 : F17.eval (.tmp 1) = Value.slice va n vc := by rw [hF, ev_other (by decide)]; exact e1_16
        have e5_17 : F17.eval (.tmp 5) = Value.slice (some ⟨g, off, none⟩) (n + 12) c := by rw [hF, ev_other (by decide)]; exact e5_16
        have e6_17 : F17.eval (.tmp 6) = Value.int .i64 (k : Int) := by rw [hF, ev_other (by decide)]; exact e6_16
        have e39_17 : F17.eval (.tmp 39) = Value.bool false := by rw [hF]; exact ev_same (by rw [z16]; decide)
        have z17 : F17.tmps.size = 58 := by rw [hF, put_size]; exact z16
        clear hF hA e1_16 e5_16 e6_16 e38_16 z16
        refine takeH (i := 17) (oi := { dst := some 40, op := Go.Op.move (Go.Operand.tmp 6), type := 3, pos := "lent.go:292", after := #[{ on := 16, ground := Go.Ground.guard }], guard := some (16, false) }) (v := Value.int .i64 (k : Int)) rfl (by kernel_rfl) (by kernel_rfl) (by kernel_rfl) (fun _ _ _ h => h) HS (by rw [wanted_g (d := 39) rfl rfl e39_17 (by rw [z17]; decide)]; rfl) (fun w hs => run_mv rfl e6_17 w) ?_
        intro F18 hA
        have hF : F18 = F17.put (some 40) (Value.int .i64 (k : Int)) := hA
        have hF18 := Lib.hid hF
        have e1_18 : F18.eval (.tmp 1) = Value.slice va n vc := by rw [hF, ev_other (by decide)]; exact e1_17
        have e5_18 : F18.eval (.tmp 5) = Value.slice (some ⟨g, off, none⟩) (n + 12) c := by rw [hF, ev_other (by decide)]; exact e5_17
        have e6_18 : F18.eval (.tmp 6) = Value.int .i64 (k : Int) := by rw [hF, ev_other (by decide)]; exact e6_17
        have e39_18 : F18.eval (.tmp 39) = Value.bool false := by rw [hF, ev_other (by decide)]; exact e39_17
        have e40_18 : F18.eval (.tmp 40) = Value.int .i64 (k : Int) := by rw [hF]; exact ev_same (by rw [z17]; decide)
        have z18 : F18.tmps.size = 58 := by rw [hF, put_size]; exact z17
        clear hF hA e1_17 e5_17 e6_17 e39_17 z17
        refine takeH (i := 18) (oi := { dst := some 41, op := Go.Op.move (Go.Operand.tmp 1), type := 32, pos := "lent.go:292", after := #[{ on := 16, ground := Go.Ground.guard }], guard := some (16, false) }) (v := Value.slice va n vc) rfl (by kernel_rfl) (by kernel_rfl) (by kernel_rfl) (fun _ _ _ h => h) HS (by rw [wanted_g (d := 39) rfl rfl e39_18 (by rw [z18]; decide)]; rfl) (fun w hs => run_mv rfl e1_18 w) ?_
        intro F19 hA
        have hF : F19 = F18.put (some 41) (Value.slice va n vc) := hA
        have hF19 := Lib.hid hF
        have e1_19 : F19.eval (.tmp 1) = Value.slice va n vc := by rw [hF, ev_other (by decide)]; exact e1_18
        have e5_19 : F19.eval (.tmp 5) = Value.slice (some ⟨g, off, none⟩) (n + 12) c := by rw [hF, ev_other (by decide)]; exact e5_18
        have e6_19 : F19.eval (.tmp 6) = Value.int .i64 (k : Int) := by rw [hF, ev_other (by decide)]; exact e6_18
        have e39_19 : F19.eval (.tmp 39) = Value.bool false := by rw [hF, ev_other (by decide)]; exact e39_18
        have e40_19 : F19.eval (.tmp 40) = Value.int .i64 (k : Int) := by rw [hF, ev_other (by decide)]; exact e40_18
        have e41_19 : F19.eval (.tmp 41) = Value.slice va n vc := by rw [hF]; exact ev_same (by rw [z18]; decide)
        have z19 : F19.tmps.size = 58 := by rw [hF, put_size]; exact z18
        clear hF hA e1_18 e5_18 e6_18 e39_18 e40_18 z18
        refine takeH (i := 19) (oi := { dst := some 42, op := Go.Op.call { callee := Go.Callee.builtin Go.Builtin.len, args := #[Go.Operand.tmp 41], argTypes := #[32] }, type := 3, pos := "lent.go:292", after := #[{ on := 18, ground := Go.Ground.data }, { on := 16, ground := Go.Ground.guard }], guard := some (16, false) }) (v := Value.int .i64 (n : Int)) rfl (by kernel_rfl) (by kernel_rfl) (by kernel_rfl) (fun _ _ _ h => h) HS (by rw [wanted_g (d := 39) rfl rfl e39_19 (by rw [z19]; decide)]; rfl) (fun w hs => run_lenS (e := 27) rfl e41_19 (by kernel_rfl) (by omega) w) ?_
        intro F20 hA
        have hF : F20 = F19.put (some 42) (Value.int .i64 (n : Int)) := hA
        have hF20 := Lib.hid hF
        have e1_20 : F20.eval (.tmp 1) = Value.slice va n vc := by rw [hF, ev_other (by decide)]; exact e1_19
        have e5_20 : F20.eval (.tmp 5) = Value.slice (some ⟨g, off, none⟩) (n + 12) c := by rw [hF, ev_other (by decide)]; exact e5_19
        have e6_20 : F20.eval (.tmp 6) = Value.int .i64 (k : Int) := by rw [hF, ev_other (by decide)]; exact e6_19
        have e39_20 : F20.eval (.tmp 39) = Value.bool false := by rw [hF, ev_other (by decide)]; exact e39_19
        have e40_20 : F20.eval (.tmp 40) = Value.int .i64 (k : Int) := by rw [hF, ev_other (by decide)]; exact e40_19
        have e42_20 : F20.eval (.tmp 42) = Value.int .i64 (n : Int) := by rw [hF]; exact ev_same (by rw [z19]; decide)
        have z20 : F20.tmps.size = 58 := by rw [hF, put_size]; exact z19
        clear hF hA e1_19 e5_19 e6_19 e39_19 e40_19 e41_19 z19
        refine takeH (i := 20) (oi := { dst := some 43, op := Go.Op.binOp Go.BinOp.geq 3 (Go.Operand.tmp 40) (Go.Operand.tmp 42) 3, type := 4, pos := "lent.go:292", after := #[{ on := 17, ground := Go.Ground.data }, { on := 19, ground := Go.Ground.data }, { on := 16, ground := Go.Ground.guard }], guard := some (16, false) }) (v := Value.bool true) rfl (by kernel_rfl) (by kernel_rfl) (by kernel_rfl) (fun _ _ _ h => h) HS (by rw [wanted_g (d := 39) rfl rfl e39_20 (by rw [z20]; decide)]; rfl) (fun w hs => by simp only [execOp, e40_20, e42_20]; go_simp) ?_
        intro F21 hA
        have hF : F21 = F20.put (some 43) (Value.bool true) := hA
        have hF21 := Lib.hid hF
        have e1_21 : F21.eval (.tmp 1) = Value.slice va n vc := by rw [hF, ev_other (by decide)]; exact e1_20
        have e5_21 : F21.eval (.tmp 5) = Value.slice (some ⟨g, off, none⟩) (n + 12) c := by rw [hF, ev_other (by decide)]; exact e5_20
        have e6_21 : F21.eval (.tmp 6) = Value.int .i64 (k : Int) := by rw [hF, ev_other (by decide)]; exact e6_20
        have e39_21 : F21.eval (.tmp 39) = Value.bool false := by rw [hF, ev_other (by decide)]; exact e39_20
        have e43_21 : F21.eval (.tmp 43) = Value.bool true := by rw [hF]; exact ev_same (by rw [z20]; decide)
        have z21 : F21.tmps.size = 58 := by rw [hF, put_size]; exact z20
        clear hF hA e1_20 e5_20 e6_20 e39_20 e40_20 e42_20 z20
        refine takeH (i := 21) (oi := { dst := some 44, op := Go.Op.move (Go.Operand.tmp 43), type := 4, pos := "lent.go:292", after := #[{ on := 20, ground := Go.Ground.data }, { on := 16, ground := Go.Ground.chain }, { on := 16, ground := Go.Ground.guard }], guard := some (16, false) }) (v := Value.bool true) rfl (by kernel_rfl) (by kernel_rfl) (by kernel_rfl) (fun _ _ _ h => h) HS (by rw [wanted_g (d := 39) rfl rfl e39_21 (by rw [z21]; decide)]; rfl) (fun w hs => run_mv rfl e43_21 w) ?_
        intro F22 hA
        have hF : F22 = F21.put (some 44) (Value.bool true) := hA
        have hF22 := Lib.hid hF
        have e1_22 : F22.eval (.tmp 1) = Value.slice va n vc := by rw [hF, ev_other (by decide)]; exact e1_21
        have e5_22 : F22.eval (.tmp 5) = Value.slice (some ⟨g, off, none⟩) (n + 12) c := by rw [hF, ev_other (by decide)]; exact e5_21
        have e6_22 : F22.eval (.tmp 6) = Value.int .i64 (k : Int) := by rw [hF, ev_other (by decide)]; exact e6_21
        have e39_22 : F22.eval (.tmp 39) = Value.bool false := by rw [hF, ev_other (by decide)]; exact e39_21
        have e44_22 : F22.eval (.tmp 44) = Value.bool true := by rw [hF]; exact ev_same (by rw [z21]; decide)
        have z22 : F22.tmps.size = 58 := by rw [hF, put_size]; exact z21
        clear hF hA e1_21 e5_21 e6_21 e39_21 e43_21 z21
        refine takeH (i := 22) (oi := { dst := some 45, op := Go.Op.move (Go.Operand.tmp 5), type := 32, pos := "lent.go:292", after := #[{ on := 21, ground := Go.Ground.guard }], guard := some (21, true) }) (v := Value.slice (some ⟨g, off, none⟩) (n + 12) c) rfl (by kernel_rfl) (by kernel_rfl) (by kernel_rfl) (fun _ _ _ h => h) HS (by rw [wanted_g (d := 44) rfl rfl e44_22 (by rw [z22]; decide)]; rfl) (fun w hs => run_mv rfl e5_22 w) ?_
        intro F23 hA
        have hF : F23 = F22.put (some 45) (Value.slice (some ⟨g, off, none⟩) (n + 12) c) := hA
        have hF23 := Lib.hid hF
        have e1_23 : F23.eval (.tmp 1) = Value.slice va n vc := by rw [hF, ev_other (by decide)]; exact e1_22
        have e6_23 : F23.eval (.tmp 6) = Value.int .i64 (k : Int) := by rw [hF, ev_other (by decide)]; exact e6_22
        have e39_23 : F23.eval (.tmp 39) = Value.bool false := by rw [hF, ev_other (by decide)]; exact e39_22
        have e44_23 : F23.eval (.tmp 44) = Value.bool true := by rw [hF, ev_other (by decide)]; exact e44_22
        have e45_23 : F23.eval (.tmp 45) = Value.slice (some ⟨g, off, none⟩) (n + 12) c := by rw [hF]; exact ev_same (by rw [z22]; decide)
        have z23 : F23.tmps.size = 58 := by rw [hF, put_size]; exact z22
        clear hF hA e1_22 e5_22 e6_22 e39_22 e44_22 z22
        refine takeH (i := 23) (oi := { dst := some 46, op := Go.Op.move (Go.Operand.tmp 6), type := 3, pos := "lent.go:292", after := #[{ on := 21, ground := Go.Ground.guard }], guard := some (21, true) }) (v := Value.int .i64 (k : Int)) rfl (by kernel_rfl) (by kernel_rfl) (by kernel_rfl) (fun _ _ _ h => h) HS (by rw [wanted_g (d := 44) rfl rfl e44_23 (by rw [z23]; decide)]; rfl) (fun w hs => run_mv rfl e6_23 w) ?_
        intro F24 hA
        have hF : F24 = F23.put (some 46) (Value.int .i64 (k : Int)) := hA
        have hF24 := Lib.hid hF
        have e1_24 : F24.eval (.tmp 1) = Value.slice va n vc := by rw [hF, ev_other (by decide)]; exact e1_23
        have e6_24 : F24.eval (.tmp 6) = Value.int .i64 (k : Int) := by rw [hF, ev_other (by decide)]; exact e6_23
        have e39_24 : F24.eval (.tmp 39) = Value.bool false := by rw [hF, ev_other (by decide)]; exact e39_23
        have e44_24 : F24.eval (.tmp 44) = Value.bool true := by rw [hF, ev_other (by decide)]; exact e44_23
        have e45_24 : F24.eval (.tmp 45) = Value.slice (some ⟨g, off, none⟩) (n + 12) c := by rw [hF, ev_other (by decide)]; exact e45_23
        have e46_24 : F24.eval (.tmp 46) = Value.int .i64 (k : Int) := by rw [hF]; exact ev_same (by rw [z23]; decide)
        have z24 : F24.tmps.size = 58 := by rw [hF, put_size]; exact z23
        clear hF hA e1_23 e6_23 e39_23 e44_23 e45_23 z23
        refine takeH (i := 24) (oi := { dst := some 47, op := Go.Op.indexAddr 32 (Go.Operand.tmp 45) (Go.Operand.tmp 46), type := 0, pos := "lent.go:292", after := #[{ on := 22, ground := Go.Ground.data }, { on := 23, ground := Go.Ground.data }, { on := 21, ground := Go.Ground.guard }], guard := some (21, true) }) (v := Value.pointer (some ⟨g, off + k * 32, none⟩)) rfl (by kernel_rfl) (by kernel_rfl) (by kernel_rfl) (fun _ _ _ h => h) HS (by rw [wanted_g (d := 44) rfl rfl e44_24 (by rw [z24]; decide)]; rfl) (fun w hs => by simp only [execOp, e45_24, e46_24]; go_simp) ?_
        intro F25 hA
        have hF : F25 = F24.put (some 47) (Value.pointer (some ⟨g, off + k * 32, none⟩)) := hA
        have hF25 := Lib.hid hF
        have e1_25 : F25.eval (.tmp 1) = Value.slice va n vc := by rw [hF, ev_other (by decide)]; exact e1_24
        have e6_25 : F25.eval (.tmp 6) = Value.int .i64 (k : Int) := by rw [hF, ev_other (by decide)]; exact e6_24
        have e39_25 : F25.eval (.tmp 39) = Value.bool false := by rw [hF, ev_other (by decide)]; exact e39_24
        have e44_25 : F25.eval (.tmp 44) = Value.bool true := by rw [hF, ev_other (by decide)]; exact e44_24
        have e47_25 : F25.eval (.tmp 47) = Value.pointer (some ⟨g, off + k * 32, none⟩) := by rw [hF]; exact ev_same (by rw [z24]; decide)
        have z25 : F25.tmps.size = 58 := by rw [hF, put_size]; exact z24
        clear hF hA e1_24 e6_24 e39_24 e44_24 e45_24 e46_24 z24
        refine takeH (i := 25) (oi := { dst := some 48, op := Go.Op.load 27 (Go.Operand.tmp 47), type := 27, pos := "lent.go:292", after := #[{ on := 24, ground := Go.Ground.data }, { on := 21, ground := Go.Ground.guard }], guard := some (21, true) }) (v := Value.agg (u8s x).toArray) rfl (by kernel_rfl) (by kernel_rfl) (by kernel_rfl) (fun _ _ _ h => h) HS (by rw [wanted_g (d := 44) rfl rfl e44_25 (by rw [z25]; decide)]; rfl) (fun w hs => run_ld (cs := u8s x) rfl e47_25 hs HU rfl HI.out) ?_
        intro F26 hA
        have hF : F26 = F25.put (some 48) (Value.agg (u8s x).toArray) := hA
        have hF26 := Lib.hid hF
        have e1_26 : F26.eval (.tmp 1) = Value.slice va n vc := by rw [hF, ev_other (by decide)]; exact e1_25
        have e6_26 : F26.eval (.tmp 6) = Value.int .i64 (k : Int) := by rw [hF, ev_other (by decide)]; exact e6_25
        have e39_26 : F26.eval (.tmp 39) = Value.bool false := by rw [hF, ev_other (by decide)]; exact e39_25
        have e44_26 : F26.eval (.tmp 44) = Value.bool true := by rw [hF, ev_other (by decide)]; exact e44_25
        have e48_26 : F26.eval (.tmp 48) = Value.agg (u8s x).toArray := by rw [hF]; exact ev_same (by rw [z25]; decide)
        have z26 : F26.tmps.size = 58 := by rw [hF, put_size]; exact z25
        clear hF hA e1_25 e6_25 e39_25 e44_25 e47_25 z25
        refine takeH (i := 26) (oi := { dst := some 49, op := Go.Op.move (Go.Operand.tmp 6), type := 3, pos := "lent.go:292", after := #[{ on := 21, ground := Go.Ground.guard }], guard := some (21, true) }) (v := Value.int .i64 (k : Int)) rfl (by kernel_rfl) (by kernel_rfl) (by kernel_rfl) (fun _ _ _ h => h) HS (by rw [wanted_g (d := 44) rfl rfl e44_26 (by rw [z26]; decide)]; rfl) (fun w hs => run_mv rfl e6_26 w) ?_
        intro F27 hA
        have hF : F27 = F26.put (some 49) (Value.int .i64 (k : Int)) := hA
        have hF27 := Lib.hid hF
        have e1_27 : F27.eval (.tmp 1) = Value.slice va n vc := by rw [hF, ev_other (by decide)]; exact e1_26
        have e39_27 : F27.eval (.tmp 39) = Value.bool false := by rw [hF, ev_other (by decide)]; exact e39_26
        have e44_27 : F27.eval (.tmp 44) = Value.bool true := by rw [hF, ev_other (by decide)]; exact e44_26
        have e48_27 : F27.eval (.tmp 48) = Value.agg (u8s x).toArray := by rw [hF, ev_other (by decide)]; exact e48_26
        have e49_27 : F27.eval (.tmp 49) = Value.int .i64 (k : Int) := by rw [hF]; exact ev_same (by rw [z26]; decide)
        have z27 : F27.tmps.size = 58 := by rw [hF, put_size]; exact z26
        clear hF hA e1_26 e6_26 e39_26 e44_26 e48_26 z26
        refine takeH (i := 27) (oi := { dst := some 50, op := Go.Op.move (Go.Operand.tmp 1), type := 32, pos := "lent.go:292", after := #[{ on := 21, ground := Go.Ground.guard }], guard := some (21, true) }) (v := Value.slice va n vc) rfl (by kernel_rfl) (by kernel_rfl) (by kernel_rfl) (fun _ _ _ h => h) HS (by rw [wanted_g (d := 44) rfl rfl e44_27 (by rw [z27]; decide)]; rfl) (fun w hs => run_mv rfl e1_27 w) ?_
        intro F28 hA
        have hF : F28 = F27.put (some 50) (Value.slice va n vc) := hA
        have hF28 := Lib.hid hF
        have e39_28 : F28.eval (.tmp 39) = Value.bool false := by rw [hF, ev_other (by decide)]; exact e39_27
        have e44_28 : F28.eval (.tmp 44) = Value.bool true := by rw [hF, ev_other (by decide)]; exact e44_27
        have e48_28 : F28.eval (.tmp 48) = Value.agg (u8s x).toArray := by rw [hF, ev_other (by decide)]; exact e48_27
        have e49_28 : F28.eval (.tmp 49) = Value.int .i64 (k : Int) := by rw [hF, ev_other (by decide)]; exact e49_27
        have e50_28 : F28.eval (.tmp 50) = Value.slice va n vc := by rw [hF]; exact ev_same (by rw [z27]; decide)
        have z28 : F28.tmps.size = 58 := by rw [hF, put_size]; exact z27
        clear hF hA e1_27 e39_27 e44_27 e48_27 e49_27 z27
        refine takeH (i := 28) (oi := { dst := some 51, op := Go.Op.call { callee := Go.Callee.builtin Go.Builtin.len, args := #[Go.Operand.tmp 50], argTypes := #[32] }, type := 3, pos := "lent.go:292", after := #[{ on := 27, ground := Go.Ground.data }, { on := 21, ground := Go.Ground.guard }], guard := some (21, true) }) (v := Value.int .i64 (n : Int)) rfl (by kernel_rfl) (by kernel_rfl) (by kernel_rfl) (fun _ _ _ h => h) HS (by rw [wanted_g (d := 44) rfl rfl e44_28 (by rw [z28]; decide)]; rfl) (fun w hs => run_lenS (e := 27) rfl e50_28 (by kernel_rfl) (by omega) w) ?_
        intro F29 hA
        have hF : F29 = F28.put (some 51) (Value.int .i64 (n : Int)) := hA
        have hF29 := Lib.hid hF
        have e39_29 : F29.eval (.tmp 39) = Value.bool false := by rw [hF, ev_other (by decide)]; exact e39_28
        have e44_29 : F29.eval (.tmp 44) = Value.bool true := by rw [hF, ev_other (by decide)]; exact e44_28
        have e48_29 : F29.eval (.tmp 48) = Value.agg (u8s x).toArray := by rw [hF, ev_other (by decide)]; exact e48_28
        have e49_29 : F29.eval (.tmp 49) = Value.int .i64 (k : Int) := by rw [hF, ev_other (by decide)]; exact e49_28
        have e51_29 : F29.eval (.tmp 51) = Value.int .i64 (n : Int) := by rw [hF]; exact ev_same (by rw [z28]; decide)
        have z29 : F29.tmps.size = 58 := by rw [hF, put_size]; exact z28
        clear hF hA e39_28 e44_28 e48_28 e49_28 e50_28 z28
        refine takeH (i := 29) (oi := { dst := some 52, op := Go.Op.binOp Go.BinOp.sub 3 (Go.Operand.tmp 49) (Go.Operand.tmp 51) 3, type := 3, pos := "lent.go:292", after := #[{ on := 26, ground := Go.Ground.data }, { on := 28, ground := Go.Ground.data }, { on := 21, ground := Go.Ground.guard }], guard := some (21, true) }) (v := Value.int .i64 ((k - n : Nat) : Int)) rfl (by kernel_rfl) (by kernel_rfl) (by kernel_rfl) (fun _ _ _ h => h) HS (by rw [wanted_g (d := 44) rfl rfl e44_29 (by rw [z29]; decide)]; rfl) (fun w hs => by simp only [execOp, e49_29, e51_29]; go_simp) ?_
        intro F30 hA
        have hF : F30 = F29.put (some 52) (Value.int .i64 ((k - n : Nat) : Int)) := hA
        have hF30 := Lib.hid hF
        have e39_30 : F30.eval (.tmp 39) = Value.bool false := by rw [hF, ev_other (by decide)]; exact e39_29
        have e44_30 : F30.eval (.tmp 44) = Value.bool true := by rw [hF, ev_other (by decide)]; exact e44_29
        have e48_30 : F30.eval (.tmp 48) = Value.agg (u8s x).toArray := by rw [hF, ev_other (by decide)]; exact e48_29
        have e52_30 : F30.eval (.tmp 52) = Value.int .i64 ((k - n : Nat) : Int) := by rw [hF]; exact ev_same (by rw [z29]; decide)
        have z30 : F30.tmps.size = 58 := by rw [hF, put_size]; exact z29
        clear hF hA e39_29 e44_29 e48_29 e49_29 e51_29 z29
        refine callH (i := 30) (oi := { dst := some 53, op := Go.Op.call { callee := Go.Callee.value (Go.Operand.func 29), args := #[Go.Operand.const (Go.Value.int Go.IntKind.i64 1), Go.Operand.tmp 52], argTypes := #[3, 3] }, type := 27, pos := "lent.go:292", after := #[{ on := 29, ground := Go.Ground.data }, { on := 21, ground := Go.Ground.chain }, { on := 21, ground := Go.Ground.guard }], guard := some (21, true) }) rfl (by kernel_rfl) (by rw [wanted_g (d := 44) rfl rfl e44_30 (by rw [z30]; decide)]; rfl) 29 #[.int .i64 1, .int .i64 ((k - n : Nat) : Int)] (run_callF rfl (by simp only [List.map_toArray, List.map_cons, List.map_nil, e52_30] <;> rfl) (fun args w => by kernel_rfl)) (Value.agg (u8s x).toArray) (Qt W0) (HM.out W0) ?_
        intro W1 F31 hA q30
        have HB1 := Lib.hid (Below.trans HB0.out (q30.mono HB0.out.size))
        refine ⟨(rangeAt_qt HS q30), ?_⟩
        have HS := (rangeAt_qt HS q30)
        have hF : F31 = F30.put (some 53) (Value.agg (u8s x).toArray) := hA
        have hF31 := Lib.hid hF
        have e39_31 : F31.eval (.tmp 39) = Value.bool false := by rw [hF, ev_other (by decide)]; exact e39_30
        have e44_31 : F31.eval (.tmp 44) = Value.bool true := by rw [hF, ev_other (by decide)]; exact e44_30
        have e48_31 : F31.eval (.tmp 48) = Value.agg (u8s x).toArray := by rw [hF, ev_other (by decide)]; exact e48_30
        have e53_31 : F31.eval (.tmp 53) = Value.agg (u8s x).toArray := by rw [hF]; exact ev_same (by rw [z30]; decide)
        have z31 : F31.tmps.size = 58 := by rw [hF, put_size]; exact z30
        clear hF hA e39_30 e44_30 e48_30 e52_30 z30
        refine takeH (i := 31) (oi := { dst := some 54, op := Go.Op.binOp Go.BinOp.eql 27 (Go.Operand.tmp 48) (Go.Operand.tmp 53) 27, type := 4, pos := "lent.go:292", after := #[{ on := 25, ground := Go.Ground.data }, { on := 30, ground := Go.Ground.data }, { on := 21, ground := Go.Ground.guard }], guard := some (21, true) }) (v := Value.bool true) rfl (by kernel_rfl) (by kernel_rfl) (by kernel_rfl) (fun _ _ _ h => h) HS (by rw [wanted_g (d := 44) rfl rfl e44_31 (by rw [z31]; decide)]; rfl) (fun w hs => by simp only [execOp, e48_31, e53_31]; go_simp) ?_
        intro F32 hA
        have hF : F32 = F31.put (some 54) (Value.bool true) := hA
        have hF32 := Lib.hid hF
        have e39_32 : F32.eval (.tmp 39) = Value.bool false := by rw [hF, ev_other (by decide)]; exact e39_31
        have e44_32 : F32.eval (.tmp 44) = Value.bool true := by rw [hF, ev_other (by decide)]; exact e44_31
        have e54_32 : F32.eval (.tmp 54) = Value.bool true := by rw [hF]; exact ev_same (by rw [z31]; decide)
        have z32 : F32.tmps.size = 58 := by rw [hF, put_size]; exact z31
        clear hF hA e39_31 e44_31 e48_31 e53_31 z31
        refine takeH (i := 32) (oi := { dst := some 55, op := Go.Op.unOp Go.UnOp.not 4 (Go.Operand.tmp 54), type := 4, pos := "lent.go:292", after := #[{ on := 31, ground := Go.Ground.data }, { on := 21, ground := Go.Ground.guard }], guard := some (21, true) }) (v := Value.bool false) rfl (by kernel_rfl) (by kernel_rfl) (by kernel_rfl) (fun _ _ _ h => h) HS (by rw [wanted_g (d := 44) rfl rfl e44_32 (by rw [z32]; decide)]; rfl) (fun w hs => by simp only [execOp, e54_32]; go_simp) ?_
        intro F33 hA
        have hF : F33 = F32.put (some 55) (Value.bool false) := hA
        have hF33 := Lib.hid hF
        have e39_33 : F33.eval (.tmp 39) = Value.bool false := by rw [hF, ev_other (by decide)]; exact e39_32
        have e44_33 : F33.eval (.tmp 44) = Value.bool true := by rw [hF, ev_other (by decide)]; exact e44_32
        have e55_33 : F33.eval (.tmp 55) = Value.bool false := by rw [hF]; exact ev_same (by rw [z32]; decide)
        have z33 : F33.tmps.size = 58 := by rw [hF, put_size]; exact z32
        clear hF hA e39_32 e44_32 e54_32 z32
        refine takeH (i := 33) (oi := { dst := some 56, op := Go.Op.pick (Go.Operand.tmp 44) (Go.Operand.tmp 55) (Go.Operand.const (Go.Value.bool false)), type := 4, pos := "lent.go:292", after := #[{ on := 21, ground := Go.Ground.data }, { on := 32, ground := Go.Ground.data }, { on := 16, ground := Go.Ground.guard }], guard := some (16, false) }) (v := Value.bool false) rfl (by kernel_rfl) (by kernel_rfl) (by kernel_rfl) (fun _ _ _ h => h) HS (by rw [wanted_g (d := 39) rfl rfl e39_33 (by rw [z33]; decide)]; rfl) (fun w hs => by simp only [execOp, e44_33, e55_33]; go_simp) ?_
        intro F34 hA
        have hF : F34 = F33.put (some 56) (Value.bool false) := hA
        have hF34 := Lib.hid hF
        have e39_34 : F34.eval (.tmp 39) = Value.bool false := by rw [hF, ev_other (by decide)]; exact e39_33
        have e56_34 : F34.eval (.tmp 56) = Value.bool false := by rw [hF]; exact ev_same (by rw [z33]; decide)
        have z34 : F34.tmps.size = 58 := by rw [hF, put_size]; exact z33
        clear hF hA e39_33 e44_33 e55_33 z33
        refine takeH (i := 34) (oi := { dst := some 57, op := Go.Op.pick (Go.Operand.tmp 39) (Go.Operand.const (Go.Value.bool true)) (Go.Operand.tmp 56), type := 4, pos := "lent.go:292", after := #[{ on := 16, ground := Go.Ground.data }, { on := 33, ground := Go.Ground.data }], guard := none }) (v := Value.bool false) rfl (by kernel_rfl) (by kernel_rfl) (by kernel_rfl) (fun _ _ _ h => h) HS (wanted_n rfl) (fun w hs => by simp only [execOp, e39_34, e56_34]; go_simp) ?_
        intro F35 hA
        have hF : F35 = F34.put (some 57) (Value.bool false) := hA
        have hF35 := Lib.hid hF
        have z35 : F35.tmps.size = 58 := by rw [hF, put_size]; exact z34
        clear hF hA e39_34 e56_34 z34
        refine wpAnyH_done (by kernel_rfl) ?_ _
        have hE : F35 = (⟨#[Value.slice (some ⟨g, off, none⟩) n c, Value.slice va n vc, undef, undef, u4, Value.slice (some ⟨g, off, none⟩) (n + 12) c, Value.int .i64 (k : Int), Value.slice (some ⟨g, off, none⟩) n c, Value.int .i64 (n : Int), Value.slice va n vc, Value.int .i64 (n : Int), Value.bool false, Value.slice (some ⟨g, off, none⟩) n c, Value.slice va n vc, Value.int .i64 (n : Int), Value.int .i64 ((n : Int) + 12), Value.slice (some ⟨g, off, none⟩) (n + 12) c, Value.int .i64 (k : Int), Value.slice (some ⟨g, off, none⟩) (n + 12) c, Value.int .i64 ((n : Int) + 12), Value.bool true, u21, u22, Value.int .i64 (k : Int), Value.slice va n vc, Value.int .i64 (n : Int), Value.bool false, Value.bool false, undef, undef, undef, undef, undef, undef, undef, undef, undef, undef, Value.bool false, Value.bool false, Value.int .i64 (k : Int), Value.slice va n vc, Value.int .i64 (n : Int), Value.bool true, Value.bool true, Value.slice (some ⟨g, off, none⟩) (n + 12) c, Value.int .i64 (k : Int), Value.pointer (some ⟨g, off + k * 32, none⟩), Value.agg (u8s x).toArray, Value.int .i64 (k : Int), Value.slice va n vc, Value.int .i64 (n : Int), Value.int .i64 ((k - n : Nat) : Int), Value.agg (u8s x).toArray, Value.bool true, Value.bool false, Value.bool false, Value.bool false], []⟩ : Act) := by
          rw [hF35.out, hF34.out, hF33.out, hF32.out, hF31.out, hF30.out, hF29.out, hF28.out, hF27.out, hF26.out, hF25.out, hF24.out, hF23.out, hF22.out, hF21.out, hF20.out, hF19.out, hF18.out, hF17.out, hF16.out, hF15.out, hF14.out, hF13.out, hF12.out, hF11.out, hF10.out, hF9.out, hF8.out, hF7.out, hF6.out, hF5.out, hF4.out, hF3.out, hF2.out, hF1.out, hF0.out]
          kernel_rfl
        rw [hE]
        go_wp2_with fail
        refine ⟨⟨k + 1, by omega, by go_num, HB1.out⟩, ?_⟩
        simp [intOf]; omega
    · obtain rfl : k = n + 12 := by omega
      go_wp2
      go_ret
      exact ⟨rfl, HB.out⟩
end Go.Proofs.Ytjpimfbkdighfaa
