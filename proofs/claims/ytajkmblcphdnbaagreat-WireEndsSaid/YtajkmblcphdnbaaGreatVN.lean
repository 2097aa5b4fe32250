import Derived.Test.YtajkmblcphdnbaaGreatVL
import Derived.Test.YtajkmblcphdnbaaGreatVN0
/-! tells: printed by gentells.py. -/
namespace Go.Proofs.YtajkmblcphdnbaaGreat
open Go.RowKit
set_option linter.unusedVariables false
set_option linter.unusedSimpArgs false

theorem tells_any (p : Value) (m : RM) (x : PutD) (bv : Value) (st : Option (List Nat)) (w : World) (h : RdX w p m st) (hx : x.Ok) :
    Calls Tryz.prog 14 #[p, .agg (putC x bv).toArray] w fun e w' => e = .returned (.agg (toldX x m st).toArray) ∧ RdX w' p m (nextK x st (pk x)) ∧ Gs m.S w w' := by
  have h10 := pk_lt x
  unfold toldX
  obtain ⟨k, hk⟩ : ∃ k, pk x = k := ⟨_, rfl⟩
  rw [hk] at h10 ⊢
  have hi := pk_int x k hk
  match k, h10, hi with
  | 0, _, hi => exact tells_0 p m x bv st w h hx hi
  | 1, _, hi => exact tells_1 p m x bv st w h hx hi
  | 2, _, hi => exact tells_2 p m x bv st w h hx hi
  | 3, _, hi => exact tells_3 p m x bv st w h hx hi
  | 4, _, hi => exact tells_4 p m x bv st w h hx hi
  | 5, _, hi => exact tells_5 p m x bv st w h hx hi
  | 6, _, hi => exact tells_6 p m x bv st w h hx hi
  | 7, _, hi => exact tells_7 p m x bv st w h hx hi
  | 8, _, hi => exact tells_8 p m x bv st w h hx hi
  | 9, _, hi => exact tells_9 p m x bv st w h hx hi
end Go.Proofs.YtajkmblcphdnbaaGreat
