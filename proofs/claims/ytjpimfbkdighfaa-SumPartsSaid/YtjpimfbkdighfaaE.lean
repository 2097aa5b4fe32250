import Derived.Test.YtjpimfbkdighfaaK
import Derived.ChangeKeysEq
/-! Two hashes, held together. -/
namespace Go.Proofs.Ytjpimfbkdighfaa
open Go.RowKit

section
variable {P : Program}
theorem eqItems_u8 {w : World} (d : Nat) {e : TypeId} (he : P.underlying e = some (.int .u8)) (a b : List Nat) : ∀ is : List Nat, (∀ i ∈ is, i < a.length ∧ i < b.length) →
    (Op.eqItems (d + 1) e 1 (u8s a).toArray (u8s b).toArray is).run P w = .ok (is.all fun i => a.getD i 0 == b.getD i 0) w
  | [], _ => by simp [Op.eqItems]
  | i :: is, h => by
    obtain ⟨h1, h2⟩ := h i (by simp)
    have hp : P.plainKey e = true := by simp [Program.plainKey, he]
    have e1 : (u8s a).toArray[i * 1]? = some (.int .u8 (a.getD i 0 : Nat)) := by simp [u8s, h1]
    have e2 : (u8s b).toArray[i * 1]? = some (.int .u8 (b.getD i 0 : Nat)) := by simp [u8s, h2]
    have ih := eqItems_u8 (w := w) d he a b is (fun j hj => h j (by simp [hj]))
    simp only [Op.eqItems, Sem.run_bind, run_part_plain w hp e1, run_part_plain w hp e2, run_equalIn_int w d e .u8 .u8 _ _ he, Result.andThen_ok]
    have hbe : ((a.getD i 0 : Int) == (b.getD i 0 : Int)) = (a.getD i 0 == b.getD i 0) := by
      rw [Bool.eq_iff_iff, beq_iff_eq, beq_iff_eq]; omega
    rw [hbe, List.all_cons]
    cases a.getD i 0 == b.getD i 0
    · simp
    · simpa using ih

theorem run_eql_hash {t e : TypeId} {n : Nat} {ie : TypeInfo} (hu : P.underlying t = some (.array n e)) (hi : P.info? e = some ie) (he : P.underlying e = some (.int .u8)) (hc : P.cellsOf e = 1) (a b : List Nat) (ha : a.length = n) (hb : b.length = n) (w : World) :
    (binOp .eql t (.agg (u8s a).toArray) (.agg (u8s b).toArray)).run P w = .ok (.bool (decide (a = b))) w := by
  have h := run_equalIn_array (P := P) w 9999 (u8s a).toArray (u8s b).toArray hu hi
  rw [hc, eqItems_u8 9998 he a b _ (fun i hi => by simp at hi; omega)] at h
  have hd : ((List.range n).all fun i => a.getD i 0 == b.getD i 0) = decide (a = b) := by
    rw [Bool.eq_iff_iff, List.all_eq_true, decide_eq_true_iff]
    constructor
    · intro hx
      apply List.ext_getElem (by omega)
      intro i h1 h2
      have := hx i (by simp; omega)
      simp only [beq_iff_eq, List.getD_eq_getElem?_getD] at this
      rw [List.getElem?_eq_getElem h1, List.getElem?_eq_getElem h2] at this
      simpa using this
    · rintro rfl i _
      simp
  rw [hd] at h
  have e2 : binOp .eql t (.agg (u8s a).toArray) (.agg (u8s b).toArray) = (do pure (.bool (← Op.equal t (.agg (u8s a).toArray) (.agg (u8s b).toArray))) : Sem Value) := by simp [binOp]
  rw [e2]
  simp only [Sem.run_bind, Op.equal, Op.maxDepth, h, Result.andThen_ok, Sem.run_pure]
theorem run_neq_hash {t e : TypeId} {n : Nat} {ie : TypeInfo} (hu : P.underlying t = some (.array n e)) (hi : P.info? e = some ie) (he : P.underlying e = some (.int .u8)) (hc : P.cellsOf e = 1) (a b : List Nat) (ha : a.length = n) (hb : b.length = n) (w : World) :
    (binOp .neq t (.agg (u8s a).toArray) (.agg (u8s b).toArray)).run P w = .ok (.bool (!decide (a = b))) w := by
  have h := run_eql_hash hu hi he hc a b ha hb w
  have e1 : binOp .eql t (.agg (u8s a).toArray) (.agg (u8s b).toArray) = (do pure (.bool (← Op.equal t (.agg (u8s a).toArray) (.agg (u8s b).toArray))) : Sem Value) := by simp [binOp]
  have e2 : binOp .neq t (.agg (u8s a).toArray) (.agg (u8s b).toArray) = (do pure (.bool (!(← Op.equal t (.agg (u8s a).toArray) (.agg (u8s b).toArray)))) : Sem Value) := by simp [binOp]
  rw [e1] at h
  rw [e2]
  simp only [Sem.run_bind] at h ⊢
  generalize (Op.equal t (.agg (u8s a).toArray) (.agg (u8s b).toArray)).run P w = r at h
  cases r with
  | ok x w' => simp only [Result.andThen_ok, Sem.run_pure] at h ⊢; cases h; rfl
  | halt x w' => simp [Result.andThen] at h
end
end Go.Proofs.Ytjpimfbkdighfaa
