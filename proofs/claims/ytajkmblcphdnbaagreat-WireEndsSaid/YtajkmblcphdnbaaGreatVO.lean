import Derived.Test.YtajkmblcphdnbaaGreatVM
import Derived.Test.YtajkmblcphdnbaaGreatVO0
/-! wants: printed by gentells.py. -/
namespace Go.Proofs.YtajkmblcphdnbaaGreat
open Go.RowKit
set_option linter.unusedVariables false
set_option linter.unusedSimpArgs false

theorem wants_any (p : Value) (m : RM) (x : PutD) (bv : Value) (st : Option (List Nat)) (w : World) (h : RfX w p m st) (hx : x.Ok) :
    Calls Tryz.prog 15 #[p, .agg (putC x bv).toArray] w fun e w' => e = .returned (.agg (toldX x m st).toArray) ∧ RfX w' p m (nextK x st (pk x)) ∧ Gs m.S w w' := by
  have h10 := pk_lt x
  unfold toldX
  obtain ⟨k, hk⟩ : ∃ k, pk x = k := ⟨_, rfl⟩
  rw [hk] at h10 ⊢
  have hi := pk_int x k hk
  match k, h10, hi with
  | 0, _, hi => exact wants_0 p m x bv st w h hx hi
  | 1, _, hi => exact wants_1 p m x bv st w h hx hi
  | 2, _, hi => exact wants_2 p m x bv st w h hx hi
  | 3, _, hi => exact wants_3 p m x bv st w h hx hi
  | 4, _, hi => exact wants_4 p m x bv st w h hx hi
  | 5, _, hi => exact wants_5 p m x bv st w h hx hi
  | 6, _, hi => exact wants_6 p m x bv st w h hx hi
  | 7, _, hi => exact wants_7 p m x bv st w h hx hi
  | 8, _, hi => exact wants_8 p m x bv st w h hx hi
  | 9, _, hi => exact wants_9 p m x bv st w h hx hi
end Go.Proofs.YtajkmblcphdnbaaGreat
