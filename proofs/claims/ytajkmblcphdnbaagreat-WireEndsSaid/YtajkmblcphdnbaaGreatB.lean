import Derived.Test.YtajkmblcphdnbaaGreatRows
import Derived.WalkKit
import Derived.WalkLawsBesides
import Derived.WalkSpells
import Derived.Below
import Derived.Defers
import Derived.Recover
import Derived.Deep.QuietTactic
import Derived.BigQuiet
import Derived.Deep.AppendSrc
import Derived.Deep.Upon
import Derived.Deep.DeepCutAuto
import Derived.Deep.RegionHeld3
import Derived.StillTailTactics
import Derived.Handy
import Derived.Laws.EntriesVeiled
import Derived.Lib.Hide
import Derived.KernelRfl
/-! Words of this session's own, over any program: what stays, slices of the call's own that begin anywhere, slices that are read. -/
namespace Go.Proofs.YtajkmblcphdnbaaGreat
open Go.RowKit

/-- Nothing that was there has turned. -/
def Qt (w w' : World) : Prop := Below w.heap.size w w'
theorem Qt.refl (w : World) : Qt w w := Below.refl _ _
theorem Qt.trans {a b c : World} (h : Qt a b) (k : Qt b c) : Qt a c := Below.trans h (Below.mono k h.size)
theorem Qt.alloc {a b : World} (h : Qt a b) (o : Obj) : Qt a (b.alloc o) := Below.alloc h h.size o
theorem Qt.drew {a b : World} (h : Qt a b) : Qt a b.drew := Below.drew h
theorem below_drewN' {B : Nat} {u w : World} (h : Below B u w) (n : Nat) : Below B u (w.drewN n) := ⟨h.os, h.tape, h.output, h.size, h.block⟩
theorem Qt.drewN {a b : World} (h : Qt a b) (n : Nat) : Qt a (b.drewN n) := below_drewN' h n

theorem quiet_same {P : Program} {f : FuncId} {args : Array Value} {w : World} {n : Nat} {v : Value}
    (h : Calls P f args (w.drewN n) fun e w' => e = .returned v ∧ w.drewN n = w') : Calls P f args (w.drewN n) fun e w'' => e = .returned v ∧ ∃ m, w'' = w.drewN m :=
  h.mono fun _ _ ⟨he, hm⟩ => ⟨he, n, hm.symm⟩

theorem cell_al {w : World} {a : Addr} {v : Value} (h : w.cell? a = some v) (ha : a.block < w.heap.size) (o : Obj) : (w.alloc o).cell? a = some v :=
  (World.cell?_of_block (w := w) (Below.heap_alloc w o a.block ha)).trans h
theorem frozen_al {w : World} {a : Addr} {b : Bool} (h : w.frozen? a = b) (ha : a.block < w.heap.size) (o : Obj) : (w.alloc o).frozen? a = b :=
  (World.frozen?_of_block (w := w) (Below.heap_alloc w o a.block ha)).trans h
theorem blk_of_cell {w : World} {a : Addr} {v : Value} (h : w.cell? a = some v) : a.block < w.heap.size := by
  unfold World.cell? at h
  rcases Nat.lt_or_ge a.block w.heap.size with h' | h'
  · exact h'
  · rw [Array.getElem?_eq_none h'] at h; cases h

/-! ### a slice of the call's own, that may begin inside its block -/
def OQ (w : World) (base size : Nat) (v : Value) (n : Nat) (xs : List Value) : Prop :=
  xs.length = n * size ∧
  ((v = .slice none 0 0 ∧ n = 0) ∨
   ∃ g off cap, v = .slice (some ⟨g, off, none⟩) n cap ∧ base ≤ g ∧ g < w.heap.size ∧ n ≤ cap ∧ cap ≤ maxLen ∧
     (∀ j, j < cap * size → (w.cell? ⟨g, off + j, none⟩).isSome = true ∧ w.frozen? ⟨g, off + j, none⟩ = false) ∧
     ∀ j u, xs[j]? = some u → w.cell? ⟨g, off + j, none⟩ = some u)

theorem OQ.nil (w : World) (base size : Nat) : OQ w base size (.slice none 0 0) 0 [] := ⟨by simp, .inl ⟨rfl, rfl⟩⟩

theorem OQ.keep {w w' : World} {base size : Nat} {v : Value} {n : Nat} {xs : List Value} (h : OQ w base size v n xs) (hs : w.heap.size ≤ w'.heap.size) (hk : ∀ g, v.ownBlock = some g → w'.heap[g]? = w.heap[g]?) : OQ w' base size v n xs := by
  obtain ⟨h1, h2 | ⟨g, off, cap, rfl, hb, hg, hn, hm, hc, hx⟩⟩ := h
  · exact ⟨h1, .inl h2⟩
  · have hk' := hk g rfl
    refine ⟨h1, .inr ⟨g, off, cap, rfl, hb, by omega, hn, hm, fun j hj => ?_, fun j u hu => ?_⟩⟩
    · rw [World.cell?_of_block (w := w) (a := ⟨g, off + j, none⟩) hk', World.frozen?_of_block (w := w) (a := ⟨g, off + j, none⟩) hk']; exact hc j hj
    · rw [World.cell?_of_block (w := w) (a := ⟨g, off + j, none⟩) hk']; exact hx j u hu

theorem OQ.lt {w : World} {base size : Nat} {v : Value} {n : Nat} {xs : List Value} (h : OQ w base size v n xs) : ∀ g, v.ownBlock = some g → base ≤ g ∧ g < w.heap.size := by
  intro g hg
  obtain ⟨_, ⟨rfl, _⟩ | ⟨g', off, cap, rfl, hb, hg', _⟩⟩ := h
  · cases hg
  · simp [Value.ownBlock] at hg; omega

theorem OQ.below {w w' : World} {base size : Nat} {v : Value} {n : Nat} {xs : List Value} (h : OQ w base size v n xs) (hb : Qt w w') : OQ w' base size v n xs :=
  h.keep hb.size fun g hg => hb.block g (h.lt g hg).2
theorem OQ.alloc {w : World} {base size : Nat} {v : Value} {n : Nat} {xs : List Value} (h : OQ w base size v n xs) (o : Obj) : OQ (w.alloc o) base size v n xs := h.below ((Qt.refl w).alloc o)
theorem OQ.drew {w : World} {base size : Nat} {v : Value} {n : Nat} {xs : List Value} (h : OQ w base size v n xs) : OQ w.drew base size v n xs := h.below (Qt.refl w).drew
theorem OQ.drewN {w : World} {base size : Nat} {v : Value} {n : Nat} {xs : List Value} (h : OQ w base size v n xs) (m : Nat) : OQ (w.drewN m) base size v n xs := h.below ((Qt.refl w).drewN m)
/-- Another block is written. -/
theorem OQ.grown {w w' : World} {base size : Nat} {v : Value} {n : Nat} {xs : List Value} {row : Option Nat} (h : OQ w base size v n xs) (hg : w.grownBy w' row) (hr : row = none ∨ row ≠ v.ownBlock) : OQ w' base size v n xs := by
  refine h.keep hg.size fun g hv => hg.block g (h.lt g hv).2 ?_
  rw [← hv]
  rcases hr with rfl | hr
  · rw [hv]; simp
  · exact fun e => hr e.symm
theorem OQ.far {w : World} {base size : Nat} {v : Value} {n : Nat} {xs : List Value} (h : OQ w base size v n xs) {p : Addr} (hp : v.ownBlock ≠ some p.block) (u : Value) : OQ (w.setCell p u) base size v n xs :=
  h.keep (by simp [World.setCell]) fun g hg => Below.heap_setCell w p u g (fun e => hp (by rw [hg, e]))
theorem OQ.lower {w : World} {base base' size : Nat} {v : Value} {n : Nat} {xs : List Value} (h : OQ w base size v n xs) (hb : base' ≤ base) : OQ w base' size v n xs := by
  obtain ⟨h1, h2 | ⟨g, off, cap, r1, r2, r⟩⟩ := h
  · exact ⟨h1, .inl h2⟩
  · exact ⟨h1, .inr ⟨g, off, cap, r1, by omega, r⟩⟩

theorem heap_setCells (b : Nat) : ∀ (vs : List Value) (o : Nat) (w : World) (k : Nat), k ≠ b → (w.setCells b o vs).heap[k]? = w.heap[k]?
  | [], _, _, _, _ => rfl
  | v :: r, o, w, k, h => by rw [World.setCells, heap_setCells b r (o + 1) _ k h, Below.heap_setCell _ _ _ _ h]
theorem size_setCells (b : Nat) : ∀ (vs : List Value) (o : Nat) (w : World), (w.setCells b o vs).heap.size = w.heap.size
  | [], _, _ => rfl
  | v :: r, o, w => by rw [World.setCells, size_setCells b r (o + 1)]; simp [World.setCell]
theorem rest_setCells (b : Nat) : ∀ (vs : List Value) (o : Nat) (w : World), (w.setCells b o vs).os = w.os ∧ (w.setCells b o vs).tape = w.tape ∧ (w.setCells b o vs).output = w.output
  | [], _, _ => ⟨rfl, rfl, rfl⟩
  | v :: r, o, w => by rw [World.setCells]; exact rest_setCells b r (o + 1) _
theorem grown_setCells (w : World) (b : Nat) (o : Nat) (vs : List Value) : w.grownBy (w.setCells b o vs) (some b) :=
  ⟨(rest_setCells b vs o w).1, (rest_setCells b vs o w).2.1, (rest_setCells b vs o w).2.2, by rw [size_setCells]; exact Nat.le_refl _, fun k _ h => heap_setCells b vs o w k (fun e => h (by rw [e]))⟩

section
variable {P : Program} {w : World}

/-- append(v, x..), whatever x is. -/
theorem run_appQ (base : Nat) (t tx ty e : TypeId) (i : TypeInfo) (z : Value) (size bytes : Nat) (ht : P.underlying t = some (.slice e)) (hi : P.info? e = some i) (hz : i.zero = some z)
    (hsize : i.size = size) (hby : i.bytes = bytes) (hzs : z.cells.size = size)
    (v : Value) (n : Nat) (xs : List Value) (hv : OQ w base size v n xs) (x : Value) (m : Nat) (news : List Value) (hs : Src P size tx x m news w)
    (h63 : n + m ≤ maxLen) (hb : (n + m) * bytes ≤ 140737488355328) (hbase : base ≤ w.heap.size) :
    ∃ v' w', (Builtin.append_ #[t, tx] ty #[v, x]).run P w = .ok v' w' ∧ OQ w' base size v' (n + m) (xs ++ news) ∧ w.grownBy w' v.ownBlock ∧
      (v'.ownBlock = v.ownBlock ∨ ∃ g, v'.ownBlock = some g ∧ w.heap.size ≤ g) := by
  subst hsize
  subst hby
  have hnl := hs.newsLen
  obtain ⟨hl, hv⟩ := hv
  have hml : n + m ≤ 9223372036854775807 := by unfold maxLen at h63; omega
  have grown : ∀ (bo : Option Addr) (cap : Nat), cap < n + m → (Builtin.firstCells i.size n (.slice bo n cap)).run P w.drew = .ok xs.toArray w.drew →
      ∃ v' w', (Builtin.append_ #[t, tx] ty #[.slice bo n cap, x]).run P w = .ok v' w' ∧ OQ w' base i.size v' (n + m) (xs ++ news) ∧ (∀ row, w.grownBy w' row) ∧ ∃ g, v'.ownBlock = some g ∧ w.heap.size ≤ g := by
    intro bo cap hg hold
    have hr := run_append_grow_src (P := P) w t tx ty e i z ht hi hz bo n cap xs hold x m news hs hg (by omega) (growslice_fits hg hb)
    have hge := grownCap_ge w (n + m) cap e
    have hcm := grownCap_le_maxLen w (n + m) cap e h63
    refine ⟨_, _, hr, ⟨by rw [List.length_append, hl, hnl, Nat.add_mul], .inr ⟨w.heap.size, 0, _, rfl, hbase, by simp, hge, hcm, ?_, ?_⟩⟩, fun row => ⟨rfl, rfl, rfl, by simp, fun k hk _ => Below.heap_alloc w.drew _ k hk⟩, w.heap.size, rfl, Nat.le_refl _⟩
    · intro j hj
      have hsz : ((xs ++ news).toArray ++ Builtin.zeroCells z.cells (grownCap w (n + m) cap e - (n + m))).size = grownCap w (n + m) cap e * i.size := by
        simp only [Array.size_append, List.size_toArray, size_zeroCells, hzs, List.length_append, hl, hnl]
        rw [← Nat.add_mul, ← Nat.add_mul]; congr 1; omega
      constructor
      · rw [show w.heap.size = w.drew.heap.size from rfl, World.cell?_alloc_new, Array.getElem?_eq_getElem (by rw [hsz]; omega)]; rfl
      · exact World.frozen?_alloc_new (w := w.drew) _ _ _
    · intro j u hu
      have hj : j < (xs ++ news).length := by
        rcases Nat.lt_or_ge j (xs ++ news).length with h | h
        · exact h
        · rw [List.getElem?_eq_none h] at hu; cases hu
      rw [show w.heap.size = w.drew.heap.size from rfl, World.cell?_alloc_new, Nat.zero_add, Array.getElem?_append_left (by simpa using hj)]
      simpa using hu
  rcases hv with ⟨rfl, rfl⟩ | ⟨g, off, cap, rfl, hbg, hgs, hn, hm, hc, hx⟩
  · have hx0 : xs = [] := List.length_eq_zero_iff.1 (by rw [hl]; omega)
    subst hx0
    by_cases h0 : m = 0
    · subst h0
      have hn0 : news = [] := List.length_eq_zero_iff.1 (by rw [hnl]; omega)
      subst hn0
      exact ⟨_, _, run_append_nothing (P := P) w t tx ty e i ht hi none 0 0 (Nat.le_refl _) x hs, ⟨by simp, .inl ⟨rfl, rfl⟩⟩, ⟨rfl, rfl, rfl, Nat.le_refl _, fun _ _ _ => rfl⟩, .inl rfl⟩
    · obtain ⟨v', w', h1, h2, h3, h4⟩ := grown none 0 (by omega) (run_firstCells_none w.drew i.size 0 0 0)
      exact ⟨v', w', h1, h2, h3 _, .inr h4⟩
  · by_cases hr : n + m ≤ cap
    · have hle : ∀ j, j < news.length → n * i.size + j < cap * i.size := by
        intro j hj
        have := Nat.mul_le_mul_right i.size hr
        rw [Nat.add_mul] at this; omega
      have hrun := run_append_room_src (P := P) w t tx ty e i ht hi g off n cap x m news hs hr
        (fun j hj => by have := (hc _ (hle j hj)).1; rw [← Nat.add_assoc] at this; exact this) (fun j hj => by have := (hc _ (hle j hj)).2; rw [← Nat.add_assoc] at this; exact this)
      refine ⟨_, _, hrun, ⟨by rw [List.length_append, hl, hnl, Nat.add_mul], .inr ⟨g, off, cap, rfl, hbg, by rw [size_setCells]; exact hgs, hr, hm, ?_, ?_⟩⟩, grown_setCells _ _ _ _, .inl rfl⟩
      · intro j hj
        rw [World.frozen?_setCells]
        refine ⟨?_, (hc j hj).2⟩
        by_cases hin : n * i.size ≤ j ∧ j < n * i.size + news.length
        · have := World.cell?_setCells_in g news (off + n * i.size) w (fun k hk => by have := (hc _ (hle k hk)).1; rw [← Nat.add_assoc] at this; exact this) (j - n * i.size) (by omega)
          rw [show off + n * i.size + (j - n * i.size) = off + j from by omega] at this
          rw [this]; rfl
        · rw [World.cell?_setCells_out g news (off + n * i.size) w ⟨g, off + j, none⟩ (fun _ _ => by show off + j < off + n * i.size ∨ off + n * i.size + news.length ≤ off + j; omega)]
          exact (hc j hj).1
      · intro j u hu
        by_cases hj : j < xs.length
        · rw [List.getElem?_append_left hj] at hu
          rw [World.cell?_setCells_out g news (off + n * i.size) w ⟨g, off + j, none⟩ (fun _ _ => by show off + j < off + n * i.size ∨ off + n * i.size + news.length ≤ off + j; omega)]
          exact hx j u hu
        · rw [List.getElem?_append_right (by omega)] at hu
          have hj2 : j - xs.length < news.length := by
            rcases Nat.lt_or_ge (j - xs.length) news.length with h | h
            · exact h
            · rw [List.getElem?_eq_none h] at hu; cases hu
          have := World.cell?_setCells_in g news (off + n * i.size) w (fun k hk => by have := (hc _ (hle k hk)).1; rw [← Nat.add_assoc] at this; exact this) (j - xs.length) hj2
          rw [show off + n * i.size + (j - xs.length) = off + j from by omega] at this
          rw [this, ← hu, List.getElem?_eq_getElem hj2]
    · obtain ⟨v', w', h1, h2, h3, h4⟩ := grown (some ⟨g, off, none⟩) cap (by omega) (run_firstCells_some w.drew i.size n ⟨g, off, none⟩ n cap xs hl (fun j u hu => by rw [Addr.add_lit]; simpa using hx j u hu))
      exact ⟨v', w', h1, h2, h3 _, .inr h4⟩

/-- The same as an arm of the walk, behind 'at_builtin'. -/
theorem wp_appQ {ops : Array Oper} {rest : List Oper} {o : Oper} {a : Act} {Q : Exit → Act → World → Prop} (hgd : o.guard = none) (s x : Operand) (t tx : TypeId)
    (ho : o.op = .call { callee := .builtin .append, args := #[s, x], argTypes := #[t, tx] })
    (base : Nat) (e : TypeId) (i : TypeInfo) (z : Value) (size bytes : Nat) (ht : P.underlying t = some (.slice e)) (hi : P.info? e = some i) (hz : i.zero = some z)
    (hsize : i.size = size) (hby : i.bytes = bytes) (hzs : z.cells.size = size)
    (v : Value) (n : Nat) (xs : List Value) (hsv : a.eval s = v) (hv : OQ w base size v n xs) (y : Value) (m : Nat) (news : List Value) (hxv : a.eval x = y) (hs : Src P size tx y m news w)
    (h63 : n + m ≤ maxLen) (hb : (n + m) * bytes ≤ 140737488355328) (hbase : base ≤ w.heap.size)
    (h : ∀ v' w', OQ w' base size v' (n + m) (xs ++ news) → w.grownBy w' v.ownBlock → (v'.ownBlock = v.ownBlock ∨ ∃ g, v'.ownBlock = some g ∧ w.heap.size ≤ g) → wpList P ops Q rest (a.put o.dst v') w') :
    wpList P ops Q (o :: rest) a w := by
  refine wpList_plain hgd fun K hK => ?_
  obtain ⟨v', w', hrun, h1, h2, h3⟩ := run_appQ (P := P) (w := w) base t tx o.type e i z size bytes ht hi hz hsize hby hzs v n xs hv y m news hs h63 hb hbase
  unfold Oper.wp
  simp [execOp, ho, resolve, invoke, builtin, hsv, hxv, hrun, Result.andThen]
  exact hK _ _ (h v' w' h1 h2 h3)
end

/-! ### a slice that is read -/
def Rd (w : World) (v : Value) (n : Nat) (xs : List Value) : Prop :=
  ∃ a c, v = .slice a n c ∧ n ≤ c ∧ (xs = [] ∨ ∃ b off, a = some ⟨b, off, none⟩ ∧ ∀ j u, xs[j]? = some u → w.cell? ⟨b, off + j, none⟩ = some u)

theorem Rd.below {w w' : World} {v : Value} {n : Nat} {xs : List Value} (h : Rd w v n xs) (hb : Qt w w') : Rd w' v n xs := by
  obtain ⟨a, c, rfl, hc, rfl | ⟨b, off, rfl, hx⟩⟩ := h
  · exact ⟨a, c, rfl, hc, .inl rfl⟩
  · exact ⟨_, c, rfl, hc, .inr ⟨b, off, rfl, fun j u hu => (hb.cell (p := ⟨b, off + j, none⟩) (blk_of_cell (hx j u hu))).trans (hx j u hu)⟩⟩

theorem Rd.of_OQ {w : World} {base size : Nat} {v : Value} {n : Nat} {xs : List Value} (h : OQ w base size v n xs) : Rd w v n xs := by
  obtain ⟨h1, ⟨rfl, rfl⟩ | ⟨g, off, cap, rfl, _, _, hn, _, _, hx⟩⟩ := h
  · exact ⟨_, _, rfl, Nat.le_refl _, .inl (List.length_eq_zero_iff.1 (by rw [h1]; omega))⟩
  · exact ⟨_, _, rfl, hn, .inr ⟨g, off, rfl, hx⟩⟩

theorem Rd.at {w : World} {a : Option Addr} {c : Nat} {n : Nat} {xs : List Value} (h : Rd w (.slice a n c) n xs) {j : Nat} (hj : j < xs.length) : ∃ b off, a = some ⟨b, off, none⟩ ∧ ∀ j u, xs[j]? = some u → w.cell? ⟨b, off + j, none⟩ = some u := by
  obtain ⟨a', c', hv, _, rfl | ⟨b, off, rfl, hx⟩⟩ := h
  · simp at hj
  · cases hv; exact ⟨b, off, rfl, hx⟩

theorem Src.ofRd {P : Program} {w : World} {size : Nat} {tx e' : TypeId} (hk : P.underlying tx = some (.slice e')) {v : Value} {n : Nat} {xs : List Value} (h : Rd w v n xs) (hl : xs.length = n * size) (hs : 0 < size) (h1 : ∀ u ∈ xs, u.oneCell' = true) : Src P size tx v n xs w := by
  obtain ⟨a, c, rfl, hc, rfl | ⟨b, off, rfl, hx⟩⟩ := h
  · have hn : n = 0 := by
      rcases Nat.eq_zero_or_pos n with h | h
      · exact h
      · have := Nat.mul_pos h hs; simp at hl; omega
    subst hn
    cases a with
    | none => exact Src.ofNil w hk c
    | some a => exact Src.ofSlice w hk a 0 c [] (by simp) (fun j u hu => by simp at hu) (fun u hu => by cases hu)
  · exact Src.ofSlice w hk ⟨b, off, none⟩ n c xs hl (fun j u hu => by rw [Addr.add_lit]; exact hx j u hu) h1
#print axioms wp_appQ
#print axioms Src.ofRd
end Go.Proofs.YtajkmblcphdnbaaGreat
