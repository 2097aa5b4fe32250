import Derived.Test.YtajkmblcphdnbaaGreatB
import Derived.Deep.MidRow
import Derived.OwnWalk
import Derived.Deep.AppendLies
import Derived.Deep.RegionHeld3
import Derived.Laws.BytesArg
/-! K's and D's general words, for seats that do not reach moidorekit's lists (no seat has both U and K). -/
namespace Go.Proofs.YtajkmblcphdnbaaGreat
open Go.RowKit

theorem OQ.ofOwns {w : World} {base : Nat} {e : TypeId} {size : Nat} {v : Value} {n : Nat} {xs : List Value} (h : w.ownsRow base e size v n xs) : OQ w base size v n xs := by
  obtain ⟨h1, h2 | ⟨g, cap, cur, rfl, hb, hg, hn, hm, hc, hx⟩⟩ := h
  · exact ⟨h1, .inl h2⟩
  · have hgs : g < w.heap.size := by
      rcases Nat.lt_or_ge g w.heap.size with h' | h'
      · exact h'
      · rw [Array.getElem?_eq_none h'] at hg; cases hg
    refine ⟨h1, .inr ⟨g, 0, cap, rfl, hb, hgs, hn, hm, fun j hj => ?_, fun j u hu => ?_⟩⟩
    · refine ⟨?_, by simp [World.frozen?, hg]⟩
      rw [Nat.zero_add, show w.cell? ⟨g, j, none⟩ = cur[j]? from by simp [World.cell?, hg], Array.getElem?_eq_getElem (by omega)]; rfl
    · rw [Nat.zero_add, show w.cell? ⟨g, j, none⟩ = cur[j]? from by simp [World.cell?, hg]]
      rw [← hx] at hu
      have hj : j < (cur.toList.take (n * size)).length := (List.getElem?_eq_some_iff.1 hu).1
      rw [List.getElem?_take] at hu
      split at hu
      · simpa using hu
      · cases hu
theorem OQ.slice {w : World} {base size n : Nat} {v : Value} {xs : List Value} (h : OQ w base size v n xs) : ∃ a c, v = .slice a n c := by
  obtain ⟨_, ⟨rfl, rfl⟩ | ⟨g, off, cap, rfl, _⟩⟩ := h
  · exact ⟨_, _, rfl⟩
  · exact ⟨_, _, rfl⟩
/-- Bytes, as cells. -/
def u8s (b : List Nat) : List Value := b.map fun (n : Nat) => Value.int .u8 (n : Int)
theorem u8s_app (a b : List Nat) : u8s (a ++ b) = u8s a ++ u8s b := by simp [u8s]
theorem u8s_len (a : List Nat) : (u8s a).length = a.length := by simp [u8s]
theorem u8s_one1 (l : List Nat) : ∀ v ∈ u8s l, v.oneCell' = true := fun v hv => by obtain ⟨j, _, rfl⟩ := List.mem_map.1 hv; rfl
theorem below_none {w w' : World} {B : Nat} (h : w.grownBy w' none) (hB : B ≤ w.heap.size := by exact Nat.le_refl _) : Below B w w' := ⟨h.os, h.tape, h.output, h.size, fun k hk => h.block k (by omega) (by simp)⟩
theorem below_app {W w w' : World} {base size n : Nat} {v : Value} {xs : List Value} (hb : Below base W w) (ho : OQ w base size v n xs) (h : w.grownBy w' v.ownBlock) (hB : base ≤ W.heap.size := by exact Nat.le_refl _) : Below base W w' :=
  hb.trans ⟨h.os, h.tape, h.output, h.size, fun k hk => h.block k (by have := hb.size; omega) (fun e => by have := (ho.lt k e.symm).1; omega)⟩
theorem rd1_new {w : World} {t : TypeId} {g x : Nat} (hg : g = w.heap.size := by first | rfl | simp) : Rd (w.alloc (.cells #[.int .u8 (x : Int)] t)) (.slice (some ⟨g, 0, none⟩) 1 1) 1 (u8s [x]) := by
  subst hg
  exact ⟨_, _, rfl, Nat.le_refl _, .inr ⟨_, _, rfl, fun j u hu => by
    rw [World.cell?_alloc_new]
    match j, hu with
    | 0, hu => exact hu⟩⟩
theorem rdv_new {w : World} {t : TypeId} {g : Nat} {x : Value} (hg : g = w.heap.size := by first | rfl | simp) : Rd (w.alloc (.cells #[x] t)) (.slice (some ⟨g, 0, none⟩) 1 1) 1 [x] := by
  subst hg
  exact ⟨_, _, rfl, Nat.le_refl _, .inr ⟨_, _, rfl, fun j u hu => by
    rw [World.cell?_alloc_new]
    match j, hu with
    | 0, hu => exact hu⟩⟩
theorem OQ.lenCap {w : World} {base n c : Nat} {a : Option Addr} {xs : List Value} (h : OQ w base 1 (.slice a n c) n xs) : n ≤ c ∧ c ≤ 9223372036854775807 := by
  obtain ⟨_, ⟨h2, _⟩ | ⟨g, off, cap, h2, _, _, h3, h4, _⟩⟩ := h
  · cases h2; exact ⟨Nat.le_refl _, by omega⟩
  · cases h2; exact ⟨h3, by unfold maxLen at h4; omega⟩
theorem OQ.some_of {w : World} {base n c : Nat} {a : Option Addr} {xs : List Value} (h : OQ w base 1 (.slice a n c) n xs) (h0 : 0 < n) : ∃ g off, a = some ⟨g, off, none⟩ := by
  obtain ⟨_, ⟨_, h2⟩ | ⟨g, off, cap, h2, _⟩⟩ := h
  · omega
  · cases h2; exact ⟨_, _, rfl⟩
theorem quiet_more {P : Program} {f : FuncId} {args : Array Value} {w : World} {n : Nat} {v : Value}
    (h : Calls P f args (w.drewN n) fun e w' => e = .returned v ∧ ∃ m, w' = (w.drewN n).drewN m) : Calls P f args (w.drewN n) fun e w'' => e = .returned v ∧ ∃ m, w'' = w.drewN m :=
  h.mono fun _ _ ⟨he, m, hm⟩ => ⟨he, n + m, by rw [hm]; simp [World.drewN, Nat.add_assoc]⟩
theorem Rd.drewN {w : World} {n : Nat} {v : Value} {xs : List Value} (h : Rd w v n xs) (m : Nat) : Rd (w.drewN m) v n xs := h.below ((Qt.refl w).drewN m)
theorem step_appQ {P : Program} {w : World} {ops : Array Oper} {o : Oper} {a : Act} {K : Act → World → Prop} {Q : Exit → Act → World → Prop} {E : Prop} (hgd : o.guard = none) (s x : Operand) (t tx : TypeId)
    (ho : o.op = .call { callee := .builtin .append, args := #[s, x], argTypes := #[t, tx] })
    (base : Nat) (e : TypeId) (i : TypeInfo) (z : Value) (size bytes : Nat) (ht : P.underlying t = some (.slice e)) (hi : P.info? e = some i) (hz : i.zero = some z)
    (hsize : i.size = size) (hby : i.bytes = bytes) (hzs : z.cells.size = size)
    (v : Value) (n : Nat) (xs : List Value) (hsv : a.eval s = v) (hv : OQ w base size v n xs) (y : Value) (m : Nat) (news : List Value) (hxv : a.eval x = y) (hs : Src P size tx y m news w)
    (h63 : n + m ≤ maxLen) (hb : (n + m) * bytes ≤ 140737488355328) (hbase : base ≤ w.heap.size)
    (h : ∀ v' w', OQ w' base size v' (n + m) (xs ++ news) → w.grownBy w' v.ownBlock → (v'.ownBlock = v.ownBlock ∨ ∃ g, v'.ownBlock = some g ∧ w.heap.size ≤ g) → K (a.put o.dst v') w') :
    if Region.wanted o (yielded ops a.tmps) = true then Oper.wp P o a w K Q else E := by
  have hw : Region.wanted o (yielded ops a.tmps) = true := by simp [Region.wanted, hgd]
  rw [if_pos hw]
  obtain ⟨v', w', hrun, h1, h2, h3⟩ := run_appQ (P := P) (w := w) base t tx o.type e i z size bytes ht hi hz hsize hby hzs v n xs hv y m news hs h63 hb hbase
  unfold Oper.wp
  simp [execOp, ho, resolve, invoke, builtin, hsv, hxv, hrun, Result.andThen]
  exact h v' w' h1 h2 h3
/-! ### bytes and texts -/
/-- A text of these bytes. -/
def str (l : List Nat) : ByteArray := ⟨(l.map UInt8.ofNat).toArray⟩
theorem str_size (l : List Nat) : (str l).size = l.length := by simp [str, ByteArray.size]
theorem str_toList (l : List Nat) : (str l).toList = l.map UInt8.ofNat := by rw [str, ByteArray.toList_mk]
theorem str_inj {a b : List Nat} (ha : ∀ x ∈ a, x < 256) (hb : ∀ x ∈ b, x < 256) (h : str a = str b) : a = b := by
  have h1 : a.map UInt8.ofNat = b.map UInt8.ofNat := by rw [← str_toList, ← str_toList, h]
  have e : ∀ (l : List Nat), (∀ x ∈ l, x < 256) → (l.map UInt8.ofNat).map UInt8.toNat = l := by
    intro l hl
    rw [List.map_map]
    conv => rhs; rw [← List.map_id l]
    apply List.map_congr_left
    intro x hx
    have := hl x hx
    show (UInt8.ofNat x).toNat = x
    rw [UInt8.toNat_ofNat']; omega
  rw [← e a ha, ← e b hb, h1]
theorem conv_str {P : Program} {w : World} (src e : TypeId) (hs : P.underlying src = some (.slice e)) (he : P.underlying e = some (.int .u8)) {v : Value} {n : Nat} {l : List Nat} (h : Rd w v n (u8s l)) (hl : l.length = n) :
    ∀ dst, P.underlying dst = some .string → (convert src dst v).run P w = .ok (.string (str l)) w := by
  intro dst hd
  obtain ⟨a, c, rfl, hc, h0 | ⟨b, off, rfl, hx⟩⟩ := h
  · have hl0 : l = [] := by simpa [u8s] using h0
    subst hl0
    obtain rfl : n = 0 := by simpa using hl.symm
    cases a with
    | none => exact run_convert_bytes_nil w src e hs he 0 c dst hd
    | some ad =>
      rw [run_convert_bytes_string w src dst e _ 0 c hs he hd, run_bytesToString w _ 0 c [] (by simpa using run_loadCells_list (P := P) w ad [] (fun j v hj => by simp at hj))]
      rfl
  · have := run_convert_bytes_arg (P := P) w src e hs he b off n c (l.map fun (x : Nat) => (x : Int)) (by simpa using hl) (fun i hi => by
      refine hx i _ ?_
      rw [u8s, List.getElem?_map, List.getD_eq_getElem?_getD, List.getElem?_map, List.getElem?_eq_getElem (by omega)]; rfl) dst hd
    rw [this]
    congr 2
    unfold strOfNums str
    rw [List.map_map]
    rfl
end Go.Proofs.YtajkmblcphdnbaaGreat
