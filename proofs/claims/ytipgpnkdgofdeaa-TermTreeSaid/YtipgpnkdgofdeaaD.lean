import Derived.Test.YtipgpnkdgofdeaaB
import Derived.Deep.AppendLies
import Derived.Deep.RegionHeld3
import Derived.Laws.BytesArg
import Derived.Test.YtipgpnkdgofdeaaK
/-! The append of B at a step of a region that draws its order. -/
namespace Go.Proofs.Ytipgpnkdgofdeaa
open Go.RowKit

theorem step_appQ {P : Program} {w : World} {ops : Array Oper} {o : Oper} {a : Act} {K : Act → World → Prop} {Q : Exit → Act → World → Prop} {E : Prop} (hgd : o.guard = none) (s x : Operand) (t tx : TypeId)
    (ho : o.op = .call { callee := .builtin .append, args := #[s, x], argTypes := #[t, tx] })
    (base : Nat) (e : TypeId) (i : TypeInfo) (z : Value) (size bytes : Nat) (ht : P.underlying t = some (.slice e)) (hi : P.info? e = some i) (hz : i.zero = some z)
    (hsize : i.size = size) (hby : i.bytes = bytes) (hzs : z.cells.size = size)
    (v : Value) (n : Nat) (xs : List Value) (hsv : a.eval s = v) (hv : OQ w base size v n xs) (y : Value) (m : Nat) (news : List Value) (hxv : a.eval x = y) (hs : Src P size tx y m news w)
    (h63 : n + m ≤ maxLen) (hb : (n + m) * bytes ≤ 140737488355328) (hbase : base ≤ w.heap.size)
    (h : ∀ v' w', OQ w' base size v' (n + m) (xs ++ news) → w.grownBy w' v.ownBlock → (v'.ownBlock = v.ownBlock ∨ ∃ g, v'.ownBlock = some g ∧ w.heap.size ≤ g) → K (a.put o.dst v') w') :
    if Region.wanted o (yielded ops a.tmps) = true then Oper.wp P o a w K Q else E := by
  have hw : Region.wanted o (yielded ops a.tmps) = true := by simp [Region.wanted, hgd]
  rw [if_pos hw]
  obtain ⟨v', w', hrun, h1, h2, h3⟩ := run_appQ (P := P) (w := w) base t tx o.type e i z size bytes ht hi hz hsize hby hzs v n xs hv y m news hs h63 hb hbase
  unfold Oper.wp
  simp [execOp, ho, resolve, invoke, builtin, hsv, hxv, hrun, Result.andThen]
  exact h v' w' h1 h2 h3

/-! ### bytes and texts -/
/-- A text of these bytes. -/
def str (l : List Nat) : ByteArray := ⟨(l.map UInt8.ofNat).toArray⟩
theorem str_size (l : List Nat) : (str l).size = l.length := by simp [str, ByteArray.size]
theorem str_toList (l : List Nat) : (str l).toList = l.map UInt8.ofNat := by rw [str, ByteArray.toList_mk]
theorem str_inj {a b : List Nat} (ha : ∀ x ∈ a, x < 256) (hb : ∀ x ∈ b, x < 256) (h : str a = str b) : a = b := by
  have h1 : a.map UInt8.ofNat = b.map UInt8.ofNat := by rw [← str_toList, ← str_toList, h]
  have e : ∀ (l : List Nat), (∀ x ∈ l, x < 256) → (l.map UInt8.ofNat).map UInt8.toNat = l := by
    intro l hl
    rw [List.map_map]
    conv => rhs; rw [← List.map_id l]
    apply List.map_congr_left
    intro x hx
    have := hl x hx
    show (UInt8.ofNat x).toNat = x
    rw [UInt8.toNat_ofNat']; omega
  rw [← e a ha, ← e b hb, h1]
theorem conv_str {P : Program} {w : World} (src e : TypeId) (hs : P.underlying src = some (.slice e)) (he : P.underlying e = some (.int .u8)) {v : Value} {n : Nat} {l : List Nat} (h : Rd w v n (u8s l)) (hl : l.length = n) :
    ∀ dst, P.underlying dst = some .string → (convert src dst v).run P w = .ok (.string (str l)) w := by
  intro dst hd
  obtain ⟨a, c, rfl, hc, h0 | ⟨b, off, rfl, hx⟩⟩ := h
  · have hl0 : l = [] := by simpa [u8s] using h0
    subst hl0
    obtain rfl : n = 0 := by simpa using hl.symm
    cases a with
    | none => exact run_convert_bytes_nil w src e hs he 0 c dst hd
    | some ad =>
      rw [run_convert_bytes_string w src dst e _ 0 c hs he hd, run_bytesToString w _ 0 c [] (by simpa using run_loadCells_list (P := P) w ad [] (fun j v hj => by simp at hj))]
      rfl
  · have := run_convert_bytes_arg (P := P) w src e hs he b off n c (l.map fun (x : Nat) => (x : Int)) (by simpa using hl) (fun i hi => by
      refine hx i _ ?_
      rw [u8s, List.getElem?_map, List.getD_eq_getElem?_getD, List.getElem?_map, List.getElem?_eq_getElem (by omega)]; rfl) dst hd
    rw [this]
    congr 2
    unfold strOfNums str
    rw [List.map_map]
    rfl
end Go.Proofs.Ytipgpnkdgofdeaa
