import Derived.Test.YtajkmblcphdnbaaGreatWQ
import Derived.Test.YtajkmblcphdnbaaGreatWH
/-! A new reader; Err, End, Spoil. -/
namespace Go.Proofs.YtajkmblcphdnbaaGreat
open Go.RowKit
set_option linter.unusedVariables false
set_option linter.unusedSimpArgs false

theorem Blk.new (w : World) (t : TypeId) (c : List Value) : Blk (w.alloc (.cells c.toArray t)) w.heap.size t c := heap_alloc_new w _
theorem NewReader_any (v : Value) (l : List Nat) (w : World) (hs : Sl w v l) (hl : ∀ x ∈ l, x < 256) : Calls Tryz.prog 13 #[v] w fun e w' => ∃ a, e = .returned (.pointer (some ⟨a, 0, none⟩)) ∧ w.heap.size ≤ a ∧ RdA w' a (some l) ∧ Qt w w' := by
  have hle := hs.le
  have HC := Lib.hid (clone_any v l w hs)
  have HL := Lib.hid hl
  clear hs hl
  go_enter Tryz.func13, Tryz.ntmps13
  go_wp2_with (go_at_call 42; refine HC.out.mono ?_; rintro e w1 ⟨r, rfl, ho, hq⟩; obtain ⟨a1, c1, rfl⟩ := ho.slice; (have HO := Lib.hid ho); (have HQ := Lib.hid hq); clear ho hq)
  go_ret
  exact ⟨_, rfl, HQ.out.size, ⟨⟨_, Blk.new _ _ _, (HO.out.sl hle).qt ((Qt.refl w1).alloc _)⟩, HL.out⟩, HQ.out.alloc _⟩
theorem Err_any (a : Nat) (st : Option (List Nat)) (w : World) (hr : RdA w a st) : Calls Tryz.prog 23 #[.pointer (some ⟨a, 0, none⟩)] w fun e w' => e = .returned (.int .i64 (if st.isSome then 0 else 4)) ∧ w = w' := by
  cases st with
  | none =>
    obtain ⟨sl, hb⟩ := hr
    have c0 : w.cell? ⟨a, 0, none⟩ = some (.bool true) := hb.cell 0
    have c1 : w.cell? ⟨a, 1, none⟩ = some (.bool true) := hb.cell 1
    clear hb
    go_enter Tryz.func23, Tryz.ntmps23
    go_wp2
    go_ret
    exact ⟨rfl, rfl⟩
  | some l =>
    obtain ⟨⟨sl, hb, _⟩, _⟩ := hr
    have c0 : w.cell? ⟨a, 0, none⟩ = some (.bool true) := hb.cell 0
    have c1 : w.cell? ⟨a, 1, none⟩ = some (.bool false) := hb.cell 1
    clear hb
    go_enter Tryz.func23, Tryz.ntmps23
    go_wp2
    go_ret
    exact ⟨rfl, rfl⟩
theorem End_any (a : Nat) (st : Option (List Nat)) (w : World) (hr : RdA w a st) : Calls Tryz.prog 22 #[.pointer (some ⟨a, 0, none⟩)] w fun e w' => e = .returned (.bool (st == some [])) ∧ w = w' := by
  have HE := Lib.hid (Err_any a st w hr)
  cases st with
  | none =>
    clear hr
    go_enter Tryz.func22, Tryz.ntmps22
    go_wp2_with (go_at_call 23; refine HE.out.mono ?_; rintro e w1 ⟨rfl, rfl⟩)
    go_ret
    exact ⟨rfl, rfl⟩
  | some l =>
    obtain ⟨⟨sl, hb, hs⟩, _⟩ := hr
    obtain ⟨sb, sc, rfl⟩ := hs.len
    have c2 : w.cell? ⟨a, 2, none⟩ = some (.slice sb l.length sc) := hb.cell 2
    have he : (some l == some []) = decide ((l.length : Int) = 0) := by
      cases l with
      | nil => rfl
      | cons x l => simp; omega
    rw [he]
    clear hb hs he
    go_enter Tryz.func22, Tryz.ntmps22
    go_wp2_with (go_at_call 23; refine HE.out.mono ?_; rintro e w1 ⟨rfl, rfl⟩)
    go_ret
    exact ⟨by simp; rw [Bool.eq_iff_iff]; simp, rfl⟩
end Go.Proofs.YtajkmblcphdnbaaGreat
