import Derived.Test.YtajkmblcphdnbaaGreatVJ
/-! What an ask tells: words, and the reference's reader by the program's contracts: printed by gentells.py. -/
namespace Go.Proofs.YtajkmblcphdnbaaGreat
open Go.RowKit
set_option linter.unusedVariables false
set_option linter.unusedSimpArgs false

theorem keep_set {w : World} {g i : Nat} {t : TypeId} {c : List Value} {old : Value} (v : Value) (hb : Blk w g t c) (ho : c[i]? = some old) (hn : ∀ k : Int, old ≠ .int .u8 k) : ∀ (ad : Addr) (y : Nat), w.cell? ad = some (.int .u8 (y : Int)) → (w.setCell ⟨g, i, none⟩ v).cell? ad = some (.int .u8 (y : Int)) := by
  intro ad y hy
  have hne : ad ≠ ⟨g, i, none⟩ := by
    rintro rfl
    rw [hb.cell, ho] at hy
    cases hy
    exact hn _ rfl
  rw [World.cell?_setCell_other (h := Ne.symm hne)]; exact hy
theorem keep_row {w : World} {g : Nat} {t : TypeId} {c d : List Value} (hb : Blk w g t c) (hd : ∀ (j y : Nat), c[j]? = some (.int .u8 (y : Int)) → d[j]? = some (.int .u8 (y : Int))) : ∀ (ad : Addr) (y : Nat), w.cell? ad = some (.int .u8 (y : Int)) → (w.setRow g d.toArray).cell? ad = some (.int .u8 (y : Int)) := by
  intro ad y hy
  by_cases hg : ad.block = g
  · obtain ⟨b, off, sp⟩ := ad
    have hg' : b = g := hg
    subst hg'
    cases sp with
    | none => rw [(blk_setRow hb d).cell]; rw [hb.cell] at hy; exact hd _ _ hy
    | some s => unfold Blk at hb; simp [World.cell?, hb] at hy
  · rw [cell_setRow_other _ _ _ _ hg]; exact hy
theorem RdX.keep {w w' : World} {p : Value} {m : RM} {st : Option (List Nat)} (h : RdX w p m st) (hb : ∀ k, m.S k → w'.heap[k]? = w.heap[k]?) (hk : ∀ (ad : Addr) (y : Nat), w.cell? ad = some (.int .u8 (y : Int)) → w'.cell? ad = some (.int .u8 (y : Int))) : RdX w' p m st := by
  have hB : ∀ {k : Nat} {t : TypeId} {c : List Value}, m.S k → Blk w k t c → Blk w' k t c := fun hs hb' => by have := hb _ hs; unfold Blk at *; rw [this, hb']
  cases m with
  | live a =>
    obtain ⟨rfl, hr⟩ := h
    refine ⟨rfl, ?_⟩
    cases st with
    | none => obtain ⟨sl, h1⟩ := hr; exact ⟨sl, hB rfl h1⟩
    | some l => obtain ⟨⟨sl, h1, h2⟩, h3⟩ := hr; exact ⟨⟨sl, hB rfl h1, h2.keep hk⟩, h3⟩
  | nil => exact h
  | raw a => obtain ⟨h1, ⟨b, sl, h2⟩, h3⟩ := h; exact ⟨h1, ⟨b, sl, hB rfl h2⟩, h3⟩
/-- The reference's. -/
def RfX (w : World) (p : Value) : RM → Option (List Nat) → Prop
  | .live a, st => p = .pointer (some ⟨a, 0, none⟩) ∧ RfA w a st
  | _, _ => False
theorem RfX.qt {w w' : World} {p : Value} {m : RM} {st : Option (List Nat)} (h : RfX w p m st) (q : Qt w w') : RfX w' p m st := by
  cases m with
  | live a => exact ⟨h.1, h.2.qt q⟩
  | nil => exact h
  | raw a => exact h
theorem RfX.lt {w : World} {p : Value} {m : RM} {st : Option (List Nat)} (h : RfX w p m st) : ∀ k, m.S k → k < w.heap.size := by
  cases m with
  | live a => rintro k rfl; obtain ⟨_, _, _, hb⟩ := h.2.blk; exact hb.lt
  | nil => exact h.elim
  | raw a => exact h.elim
theorem RfX.keep {w w' : World} {p : Value} {m : RM} {st : Option (List Nat)} (h : RfX w p m st) (hb : ∀ k, m.S k → w'.heap[k]? = w.heap[k]?) (hk : ∀ (ad : Addr) (y : Nat), w.cell? ad = some (.int .u8 (y : Int)) → w'.cell? ad = some (.int .u8 (y : Int))) : RfX w' p m st := by
  have hB : ∀ {k : Nat} {t : TypeId} {c : List Value}, m.S k → Blk w k t c → Blk w' k t c := fun hs hb' => by have := hb _ hs; unfold Blk at *; rw [this, hb']
  cases m with
  | live a =>
    obtain ⟨rfl, hr⟩ := h
    refine ⟨rfl, ?_⟩
    cases st with
    | none => obtain ⟨_, _, _, h1⟩ := hr; exact ⟨_, _, _, hB rfl h1⟩
    | some l => obtain ⟨⟨sl, h1, h2⟩, h3⟩ := hr; exact ⟨⟨sl, hB rfl h1, h2.keep hk⟩, h3⟩
  | nil => exact h
  | raw a => exact h
theorem rU8_x (p : Value) (m : RM) (st : Option (List Nat)) (w : World) (h : RfX w p m st) : Calls Tryz.prog 51 #[p] w fun e w' => e = .returned (.int .i64 (num 1 st : Nat)) ∧ RfX w' p m (nxt 1 st) ∧ Gs m.S w w' := by
  cases m with
  | live a =>
    obtain ⟨rfl, hr⟩ := h
    exact (rU8_any a st w hr).mono (by rintro e w' ⟨rfl, h, q⟩; exact ⟨rfl, ⟨rfl, h⟩, Gs.of_og q rfl⟩)
  | nil => exact h.elim
  | raw a => exact h.elim
theorem rU16_x (p : Value) (m : RM) (st : Option (List Nat)) (w : World) (h : RfX w p m st) : Calls Tryz.prog 52 #[p] w fun e w' => e = .returned (.int .i64 (num 2 st : Nat)) ∧ RfX w' p m (nxt 2 st) ∧ Gs m.S w w' := by
  cases m with
  | live a =>
    obtain ⟨rfl, hr⟩ := h
    exact (rU16_any a st w hr).mono (by rintro e w' ⟨rfl, h, q⟩; exact ⟨rfl, ⟨rfl, h⟩, Gs.of_og q rfl⟩)
  | nil => exact h.elim
  | raw a => exact h.elim
theorem rU32_x (p : Value) (m : RM) (st : Option (List Nat)) (w : World) (h : RfX w p m st) : Calls Tryz.prog 53 #[p] w fun e w' => e = .returned (.int .i64 (num 4 st : Nat)) ∧ RfX w' p m (nxt 4 st) ∧ Gs m.S w w' := by
  cases m with
  | live a =>
    obtain ⟨rfl, hr⟩ := h
    exact (rU32_any a st w hr).mono (by rintro e w' ⟨rfl, h, q⟩; exact ⟨rfl, ⟨rfl, h⟩, Gs.of_og q rfl⟩)
  | nil => exact h.elim
  | raw a => exact h.elim
theorem rU64_x (p : Value) (m : RM) (st : Option (List Nat)) (w : World) (h : RfX w p m st) : Calls Tryz.prog 54 #[p] w fun e w' => e = .returned (.int .u64 (num 8 st : Nat)) ∧ RfX w' p m (nxt 8 st) ∧ Gs m.S w w' := by
  cases m with
  | live a =>
    obtain ⟨rfl, hr⟩ := h
    exact (rU64_any a st w hr).mono (by rintro e w' ⟨rfl, h, q⟩; exact ⟨rfl, ⟨rfl, h⟩, Gs.of_og q rfl⟩)
  | nil => exact h.elim
  | raw a => exact h.elim
theorem rI64_x (p : Value) (m : RM) (st : Option (List Nat)) (w : World) (h : RfX w p m st) : Calls Tryz.prog 55 #[p] w fun e w' => e = .returned (.int .i64 (wrap64 (num 8 st : Nat))) ∧ RfX w' p m (nxt 8 st) ∧ Gs m.S w w' := by
  cases m with
  | live a =>
    obtain ⟨rfl, hr⟩ := h
    exact (rI64_any a st w hr).mono (by rintro e w' ⟨rfl, h, q⟩; exact ⟨rfl, ⟨rfl, h⟩, Gs.of_og q rfl⟩)
  | nil => exact h.elim
  | raw a => exact h.elim
theorem rRaw_x (p : Value) (m : RM) (n : Int) (st : Option (List Nat)) (w : World) (h : RfX w p m st) : Calls Tryz.prog 57 #[p, .int .i64 n] w fun e w' => ∃ r, e = .returned r ∧ OQ w' w.heap.size 1 r (rawB n st).length (u8s (rawB n st)) ∧ RfX w' p m (rawN n st) ∧ Gs m.S w w' := by
  cases m with
  | live a =>
    obtain ⟨rfl, hr⟩ := h
    exact (rRaw_any a n st w hr).mono (by rintro e w' ⟨r, rfl, ho, h, q⟩; exact ⟨r, rfl, ho, ⟨rfl, h⟩, Gs.of_og q rfl⟩)
  | nil => exact h.elim
  | raw a => exact h.elim
theorem rText_x (p : Value) (m : RM) (n : Int) (st : Option (List Nat)) (w : World) (h : RfX w p m st) : Calls Tryz.prog 58 #[p, .int .i64 n] w fun e w' => e = .returned (.string (textV n st)) ∧ RfX w' p m (textN n st) ∧ Gs m.S w w' := by
  cases m with
  | live a =>
    obtain ⟨rfl, hr⟩ := h
    exact (rText_any a n st w hr).mono (by rintro e w' ⟨rfl, h, q⟩; exact ⟨rfl, ⟨rfl, h⟩, Gs.of_og q rfl⟩)
  | nil => exact h.elim
  | raw a => exact h.elim
theorem rFlag_x (p : Value) (m : RM) (st : Option (List Nat)) (w : World) (h : RfX w p m st) : Calls Tryz.prog 59 #[p] w fun e w' => e = .returned (.bool (flagV st)) ∧ RfX w' p m (flagN st) ∧ Gs m.S w w' := by
  cases m with
  | live a =>
    obtain ⟨rfl, hr⟩ := h
    exact (rFlag_any a st w hr).mono (by rintro e w' ⟨rfl, h, q⟩; exact ⟨rfl, ⟨rfl, h⟩, Gs.of_og q rfl⟩)
  | nil => exact h.elim
  | raw a => exact h.elim
theorem rCount_x (p : Value) (m : RM) (n : Int) (st : Option (List Nat)) (w : World) (h : RfX w p m st) : Calls Tryz.prog 60 #[p, .int .i64 n] w fun e w' => e = .returned (.int .i64 (cntV n st : Nat)) ∧ RfX w' p m (cntN n st) ∧ Gs m.S w w' := by
  cases m with
  | live a =>
    obtain ⟨rfl, hr⟩ := h
    exact (rCount_any a n st w hr).mono (by rintro e w' ⟨rfl, h, q⟩; exact ⟨rfl, ⟨rfl, h⟩, Gs.of_og q rfl⟩)
  | nil => exact h.elim
  | raw a => exact h.elim
theorem rLeft_x (p : Value) (m : RM) (st : Option (List Nat)) (w : World) (h : RfX w p m st) : Calls Tryz.prog 61 #[p] w fun e w' => e = .returned (.int .i64 (leftV st : Nat)) ∧ RfX w' p m (leftN st) ∧ Gs m.S w w' := by
  cases m with
  | live a =>
    obtain ⟨rfl, hr⟩ := h
    exact (rLeft_any a st w hr).mono (by rintro e w' ⟨rfl, rfl⟩; rw [leftN_id]; exact ⟨rfl, ⟨rfl, hr⟩, Gs.refl _ _⟩)
  | nil => exact h.elim
  | raw a => exact h.elim
theorem rErr_x (p : Value) (m : RM) (st : Option (List Nat)) (w : World) (h : RfX w p m st) : Calls Tryz.prog 62 #[p] w fun e w' => e = .returned (.int .i64 (errX m st)) ∧ w = w' := by
  cases m with
  | live a => obtain ⟨rfl, hr⟩ := h; exact rErr_any a st w hr
  | nil => exact h.elim
  | raw a => exact h.elim
theorem rEnd_x (p : Value) (m : RM) (st : Option (List Nat)) (w : World) (h : RfX w p m st) : Calls Tryz.prog 63 #[p] w fun e w' => e = .returned (.bool (st == some [])) ∧ w = w' := by
  cases m with
  | live a => obtain ⟨rfl, hr⟩ := h; exact rEnd_any a st w hr
  | nil => exact h.elim
  | raw a => exact h.elim
def RdXO (w0 w : World) (p : Value) : RM → Option (List Nat) → Prop
  | .live a, st => p = .pointer (some ⟨a, 0, none⟩) ∧ RdO w0 w a st
  | m, st => RdX w p m st
theorem RdX.blk0 {w : World} {a : Nat} {l : List Nat} (h : RdA w a (some l)) : ∃ x y s, Blk w a 69 [.bool x, .bool y, s] ∧ ∃ a n c, s = .slice a n c := by
  obtain ⟨⟨sl, hb, hs⟩, _⟩ := h; exact ⟨_, _, _, hb, hs.slice⟩
/-- st0: what was left in the elder world. -/
theorem RdXO.fin {w0 w : World} {p : Value} {m : RM} {st st0 : Option (List Nat)} (h : RdXO w0 w p m st) (h0 : RdX w0 p m st0) (hst : st0 = none → st = none) (q : Gs m.S w0 w) : RdX w p m st := by
  cases m with
  | live a =>
    have q' : Og a w0 w := ⟨q.os, q.tape, q.output, q.size, fun k hk hn => q.block k hk (fun e => hn (by rw [show k = a from e]))⟩
    obtain ⟨rfl, hr⟩ := h
    obtain ⟨_, h0⟩ := h0
    refine ⟨rfl, ?_⟩
    cases st0 with
    | none => obtain rfl := hst rfl; exact hr
    | some l0 => obtain ⟨x, y, s, hb, hs⟩ := RdX.blk0 h0; exact hr.fin hb hs q'
  | nil => exact h
  | raw a => exact h
theorem RdXO.gs {w0 w w' : World} {p : Value} {m : RM} {st : Option (List Nat)} {R : Nat → Prop} (h : RdXO w0 w p m st) (q : Gs R w w') (hr : ∀ k, m.S k → ¬R k) : RdXO w0 w' p m st := by
  cases m with
  | live a => exact ⟨h.1, h.2.gs q (hr _ rfl)⟩
  | nil => exact h
  | raw a => obtain ⟨h1, ⟨b, sl, h2⟩, h3⟩ := h; exact ⟨h1, ⟨b, sl, q.blk h2 (hr _ rfl)⟩, h3⟩
theorem Hash_xo (p : Value) (m : RM) (st : Option (List Nat)) (w0 w : World) (h : RdX w0 p m st) (q0 : Qt w0 w) : Calls Tryz.prog 48 #[p] w fun e w' => e = .returned (.agg (u8s (hshV st)).toArray) ∧ RdXO w0 w' p m (nxt 32 st) ∧ Gs m.S w w' := by
  cases m with
  | live a =>
    obtain ⟨rfl, hr⟩ := h
    exact (Hash_old a st w0 w hr q0).mono (by rintro e w' ⟨rfl, h, q⟩; exact ⟨rfl, ⟨rfl, h⟩, Gs.of_og q rfl⟩)
  | nil => exact Hash_x p .nil st w (h.qt q0)
  | raw a => exact Hash_x p (.raw a) st w (h.qt q0)
theorem Left_xo (p : Value) (m : RM) (st st0 : Option (List Nat)) (w0 w : World) (h : RdXO w0 w p m st) (h0 : RdX w0 p m st0) (hst : st0 = none → st = none) (q0 : Gs m.S w0 w) : Calls Tryz.prog 50 #[p] w fun e w' => e = .returned (.int .i64 (leftV st : Nat)) ∧ RdXO w0 w' p m (leftN st) ∧ Gs m.S w w' := by
  have hf := h.fin h0 hst q0
  cases m with
  | live a =>
    have q' : Og a w0 w := ⟨q0.os, q0.tape, q0.output, q0.size, fun k hk hn => q0.block k hk (fun e => hn (by rw [show k = a from e]))⟩
    obtain ⟨rfl, hr⟩ := h
    cases st0 with
    | none =>
      obtain rfl := hst rfl
      exact (Left_x _ (.live a) none w hf).mono (by rintro e w' ⟨rfl, h, q⟩; exact ⟨rfl, h, q⟩)
    | some l0 =>
      obtain ⟨x, y, s, hb, hs⟩ := RdX.blk0 h0.2
      exact (Left_old a st w0 w hr hf.2 x y s hb hs q').mono (by rintro e w' ⟨rfl, h, q⟩; exact ⟨rfl, ⟨rfl, h⟩, Gs.of_og q rfl⟩)
  | nil => exact Left_x p .nil st w h
  | raw a => exact Left_x p (.raw a) st w h
def RfXO (w0 w : World) (p : Value) : RM → Option (List Nat) → Prop
  | .live a, st => p = .pointer (some ⟨a, 0, none⟩) ∧ RfO w0 w a st
  | m, st => RfX w p m st
theorem RfXO.fin {w0 w : World} {p : Value} {m : RM} {st st0 : Option (List Nat)} (h : RfXO w0 w p m st) (h0 : RfX w0 p m st0) (_hst : st0 = none → st = none) (q : Gs m.S w0 w) : RfX w p m st := by
  cases m with
  | live a =>
    have q' : Og a w0 w := ⟨q.os, q.tape, q.output, q.size, fun k hk hn => q.block k hk (fun e => hn (by rw [show k = a from e]))⟩
    obtain ⟨rfl, hr⟩ := h
    obtain ⟨_, h0⟩ := h0
    obtain ⟨_, _, _, hb⟩ := h0.blk
    exact ⟨rfl, hr.fin hb ⟨_, _, _, rfl⟩ q'⟩
  | nil => exact h
  | raw a => exact h
theorem RfXO.gs {w0 w w' : World} {p : Value} {m : RM} {st : Option (List Nat)} {R : Nat → Prop} (h : RfXO w0 w p m st) (q : Gs R w w') (hr : ∀ k, m.S k → ¬R k) : RfXO w0 w' p m st := by
  cases m with
  | live a =>
    obtain ⟨h1, h2⟩ := h
    refine ⟨h1, ?_⟩
    cases st with
    | none => obtain ⟨_, _, _, hb⟩ := h2; exact ⟨_, _, _, q.blk hb (hr _ rfl)⟩
    | some l => obtain ⟨⟨sl, hb, hs⟩, hl⟩ := h2; exact ⟨⟨sl, q.blk hb (hr _ rfl), hs⟩, hl⟩
  | nil => exact h
  | raw a => exact h
theorem rHash_xo (p : Value) (m : RM) (st : Option (List Nat)) (w0 w : World) (h : RfX w0 p m st) (q0 : Qt w0 w) : Calls Tryz.prog 56 #[p] w fun e w' => e = .returned (.agg (u8s (hshV st)).toArray) ∧ RfXO w0 w' p m (nxt 32 st) ∧ Gs m.S w w' := by
  cases m with
  | live a =>
    obtain ⟨rfl, hr⟩ := h
    exact (rHash_old a st w0 w hr q0).mono (by rintro e w' ⟨rfl, h, q⟩; exact ⟨rfl, ⟨rfl, h⟩, Gs.of_og q rfl⟩)
  | nil => exact h.elim
  | raw a => exact h.elim
theorem rLeft_xo (p : Value) (m : RM) (st st0 : Option (List Nat)) (w0 w : World) (h : RfXO w0 w p m st) (h0 : RfX w0 p m st0) (hst : st0 = none → st = none) (q0 : Gs m.S w0 w) : Calls Tryz.prog 61 #[p] w fun e w' => e = .returned (.int .i64 (leftV st : Nat)) ∧ RfXO w0 w' p m (leftN st) ∧ Gs m.S w w' := by
  have hf := h.fin h0 hst q0
  cases m with
  | live a =>
    obtain ⟨rfl, hr⟩ := h
    exact (rLeft_any a st w hf.2).mono (by rintro e w' ⟨rfl, rfl⟩; rw [leftN_id]; exact ⟨rfl, ⟨rfl, hr⟩, Gs.refl _ _⟩)
  | nil => exact h.elim
  | raw a => exact h.elim

/-- What is told. -/
def toldC (n : Int) (u : Nat) (h : List Nat) (s : ByteArray) (is : Bool) (l : Nat) (e : Int) (en : Bool) : List Value :=
  [.int .i64 n, .int .u64 (u : Int)] ++ (u8s h ++ [.string s, .bool is, .int .i64 (l : Int), .int .i64 e, .bool en])
def toldZ : List Value := toldC 0 0 Z32 (str []) false 0 0 false
def nextK (x : PutD) (st : Option (List Nat)) : Nat → Option (List Nat)
  | 0 => nxt 1 st
  | 1 => nxt 2 st
  | 2 => nxt 4 st
  | 3 => nxt 8 st
  | 4 => nxt 8 st
  | 5 => nxt 32 st
  | 6 => rawN x.n st
  | 7 => textN x.n st
  | 8 => flagN st
  | _ => cntN x.n st
def toldK (x : PutD) (st : Option (List Nat)) (l : Nat) (e : Int) (en : Bool) : Nat → List Value
  | 0 => toldC (num 1 st : Nat) 0 Z32 (str []) false l e en
  | 1 => toldC (num 2 st : Nat) 0 Z32 (str []) false l e en
  | 2 => toldC (num 4 st : Nat) 0 Z32 (str []) false l e en
  | 3 => toldC 0 (num 8 st) Z32 (str []) false l e en
  | 4 => toldC 0 (num 8 st) Z32 (str []) false l e en
  | 5 => toldC 0 0 (hshV st) (str []) false l e en
  | 6 => toldC 0 0 Z32 (str (rawB x.n st)) false l e en
  | 7 => toldC 0 0 Z32 (textV x.n st) false l e en
  | 8 => toldC 0 0 Z32 (str []) (flagV st) l e en
  | _ => toldC (cntV x.n st : Nat) 0 Z32 (str []) false l e en
/-- All that an ask tells, of a reader of a sort. -/
def toldX (x : PutD) (m : RM) (st : Option (List Nat)) : List Value :=
  toldK x st (leftV (nextK x st (pk x))) (errX m (nextK x st (pk x))) (nextK x st (pk x) == some []) (pk x)
theorem nextK_none (x : PutD) (k : Nat) : nextK x none k = none := by
  unfold nextK
  split <;> rfl
theorem toldZ_39 (n : Int) (u : Nat) (h : List Nat) (hh : h.length = 32) (s : ByteArray) (is : Bool) (l : Nat) (e : Int) (en : Bool) : (toldC n u h s is l e en).length = 39 := by simp [toldC, u8s_len, hh]
theorem told_size (n : Int) (u : Nat) (h : List Nat) (hh : h.length = 32) (s : ByteArray) (is : Bool) (l : Nat) (e : Int) (en : Bool) : ((Tryz.prog).info? 49).map (·.size) = some (toldC n u h s is l e en).toArray.size := by
  rw [List.size_toArray, toldZ_39 n u h hh]; kernel_rfl
theorem told_one (n : Int) (u : Nat) (h : List Nat) (s : ByteArray) (is : Bool) (l : Nat) (e : Int) (en : Bool) : (toldC n u h s is l e en).toArray.all (·.oneCell') = true := by
  rw [List.all_toArray, List.all_eq_true]
  intro v hv
  unfold toldC at hv
  rcases List.mem_append.1 hv with hv | hv
  · simp at hv; rcases hv with rfl | rfl <;> rfl
  · rcases List.mem_append.1 hv with hv | hv
    · exact u8s_one1 _ v hv
    · simp at hv; rcases hv with rfl | rfl | rfl | rfl | rfl <;> rfl
/-- Noughts lie over noughts. -/
theorem told_keep (n n' : Int) (u u' : Nat) (h : List Nat) (s s' : ByteArray) (is is' : Bool) (l l' : Nat) (e e' : Int) (en en' : Bool) : ∀ (j y : Nat), (toldC n u h s is l e en)[j]? = some (.int .u8 (y : Int)) → (toldC n' u' h s' is' l' e' en')[j]? = some (.int .u8 (y : Int)) := by
  intro j y hy
  unfold toldC at *
  by_cases h2 : j < 2
  · rw [List.getElem?_append_left (by simpa using h2)] at hy
    match j, h2, hy with
    | 0, _, hy => cases hy
    | 1, _, hy => cases hy
  · rw [List.getElem?_append_right (by simp; omega)] at hy ⊢
    by_cases h3 : j - 2 < (u8s h).length
    · rw [List.getElem?_append_left (by simpa using h3)] at hy ⊢; exact hy
    · rw [List.getElem?_append_right (by simp; omega)] at hy
      have hm := List.mem_of_getElem? hy
      simp at hm
def setsL : List Value → Nat → List Value → List Value
  | c, _, [] => c
  | c, o, v :: r => setsL (c.set o v) (o + 1) r
theorem Blk.setCells {g : Nat} {t : TypeId} : ∀ (vs : List Value) (o : Nat) (c : List Value) (w : World), Blk w g t c → Blk (w.setCells g o vs) g t (setsL c o vs)
  | [], _, _, _, h => h
  | v :: r, o, c, w, h => by rw [World.setCells, setsL]; exact Blk.setCells r (o + 1) _ _ (h.set o v)
theorem setsL_mid : ∀ (vs pre zs tl : List Value), zs.length = vs.length → setsL (pre ++ (zs ++ tl)) pre.length vs = pre ++ (vs ++ tl)
  | [], pre, zs, tl, h => by rw [setsL, List.length_eq_zero_iff.1 h]
  | v :: r, pre, [], tl, h => by simp at h
  | v :: r, pre, z :: zs, tl, h => by
    rw [setsL]
    have e : (pre ++ (z :: zs ++ tl)).set pre.length v = (pre ++ [v]) ++ (zs ++ tl) := by
      rw [List.set_append_right _ _ (Nat.le_refl _), Nat.sub_self]; simp
    rw [e, show pre.length + 1 = (pre ++ [v]).length from by simp, setsL_mid r (pre ++ [v]) zs tl (by simpa using h)]
    simp
theorem told_hash (h : List Nat) (hh : h.length = 32) : setsL toldZ 2 (u8s h) = toldC 0 0 h (str []) false 0 0 false := by
  unfold toldZ toldC
  exact setsL_mid (u8s h) [.int .i64 0, .int .u64 ((0 : Nat) : Int)] (u8s Z32) _ (by rw [u8s_len, u8s_len, hh, Z32_len])
theorem und_struct {P : Program} {t : TypeId} (h : (match P.underlying t with | some (.struct _) => true | _ => false) = true) : ∃ fs, P.underlying t = some (.struct fs) := by
  cases hu : P.underlying t with
  | none => rw [hu] at h; cases h
  | some d =>
    rw [hu] at h
    cases d with
    | struct fs => exact ⟨fs, rfl⟩
    | _ => cases h
theorem Gs.tr {S : Nat → Prop} {x y z : World} (h : Gs S x y) (k : Gs S y z) : Gs S x z := h.trans (k.mono fun _ _ h => .inl h)
theorem Gs.setN {S : Nat → Prop} {w w' : World} (h : Gs S w w') {g i : Nat} (hg : w.heap.size ≤ g) (v : Value) : Gs S w (w'.setCell ⟨g, i, none⟩ v) :=
  ⟨h.os, h.tape, h.output, by have := h.size; simpa [World.setCell] using this, fun k hk hn => by rw [Below.heap_setCell _ _ _ _ (by show k ≠ g; omega)]; exact h.block k hk hn⟩
theorem Gs.rowN {S : Nat → Prop} {w w' : World} (h : Gs S w w') {g : Nat} (hg : w.heap.size ≤ g) (d : Array Value) : Gs S w (w'.setRow g d) :=
  ⟨h.os, h.tape, h.output, by rw [setRow_size]; exact h.size, fun k hk hn => by rw [setRow_other _ _ _ _ (by omega)]; exact h.block k hk hn⟩
theorem Gs.midN {S : Nat → Prop} {w w' : World} (h : Gs S w w') {g i : Nat} (hg : w.heap.size ≤ g) (vs : List Value) : Gs S w (w'.setCells g i vs) :=
  ⟨(rest_setCells g vs i w').1.trans h.os, (rest_setCells g vs i w').2.1.trans h.tape, (rest_setCells g vs i w').2.2.trans h.output, by rw [size_setCells]; exact h.size, fun k hk hn => by rw [heap_setCells g vs i w' k (by omega)]; exact h.block k hk hn⟩
theorem gs_mid (w : World) (g i : Nat) (vs : List Value) : Gs (fun k => k = g) w (w.setCells g i vs) :=
  ⟨(rest_setCells g vs i w).1, (rest_setCells g vs i w).2.1, (rest_setCells g vs i w).2.2, by rw [size_setCells]; exact Nat.le_refl _, fun k _ hn => heap_setCells g vs i w k hn⟩
theorem blk_mid_far {w : World} {g k i : Nat} {t : TypeId} {c vs : List Value} (h : Blk w k t c) (hk : k ≠ g) : Blk (w.setCells g i vs) k t c := by
  unfold Blk at *; rw [heap_setCells _ _ _ _ _ hk, h]
theorem alloc3_blk {w : World} {o o' : Obj} {t : TypeId} {c : List Value} : Blk (((w.alloc o).alloc o').alloc (.cells c.toArray t)) (w.heap.size + 1 + 1) t c := by
  have h := heap_alloc_new ((w.alloc o).alloc o') (.cells c.toArray t)
  rwa [show ((w.alloc o).alloc o').heap.size = w.heap.size + 1 + 1 from by simp] at h
theorem Blk.thereN {w : World} {g o n : Nat} {t : TypeId} {c : List Value} (h : Blk w g t c) (hn : o + n ≤ c.length) : w.there g o n := fun j hj => by
  refine ⟨?_, h.frozen _⟩
  rw [h.cell, List.getElem?_eq_getElem (by omega)]; rfl
theorem RdX.num8 {w : World} {p : Value} {m : RM} {st : Option (List Nat)} (h : RdX w p m st) : num 8 st < 18446744073709551616 := by
  have hl : ∀ l, st = some l → ∀ x ∈ l, x < 256 := by
    rintro l rfl
    cases m with
    | live a => exact (show RdS w a l from h.2).lt
    | nil => cases h.2
    | raw a => cases h.2.2
  exact Nat.lt_of_lt_of_le (num_lt 8 st hl) (by decide)
theorem RfX.num8 {w : World} {p : Value} {m : RM} {st : Option (List Nat)} (h : RfX w p m st) : num 8 st < 18446744073709551616 := by
  have hl : ∀ l, st = some l → ∀ x ∈ l, x < 256 := by
    cases m with
    | live a => exact h.2.lt
    | nil => exact h.elim
    | raw a => exact h.elim
  exact Nat.lt_of_lt_of_le (num_lt 8 st hl) (by decide)
theorem told_36 (h : List Nat) (hh : h.length = 32) : (toldC 0 0 h (str []) false 0 0 false)[36]? = some (.int .i64 0) := by
  unfold toldC
  rw [List.getElem?_append_right (by simp), List.getElem?_append_right (by simp [u8s_len, hh])]; simp [u8s_len, hh]
theorem told_37 (h : List Nat) (hh : h.length = 32) : (toldC 0 0 h (str []) false 0 0 false)[37]? = some (.int .i64 0) := by
  unfold toldC
  rw [List.getElem?_append_right (by simp), List.getElem?_append_right (by simp [u8s_len, hh])]; simp [u8s_len, hh]
theorem told_38 (h : List Nat) (hh : h.length = 32) : (toldC 0 0 h (str []) false 0 0 false)[38]? = some (.bool false) := by
  unfold toldC
  rw [List.getElem?_append_right (by simp), List.getElem?_append_right (by simp [u8s_len, hh])]; simp [u8s_len, hh]
theorem told_sets (h : List Nat) (hh : h.length = 32) (l : Nat) (e : Int) (en : Bool) : (((toldC 0 0 h (str []) false 0 0 false).set 36 (.int .i64 (l : Int))).set 37 (.int .i64 e)).set 38 (.bool en) = toldC 0 0 h (str []) false l e en := by
  unfold toldC
  have hs : ∀ (a b : Value) (m tl : List Value) i v, m.length = 32 → (([a, b] ++ (m ++ tl)).set (i + 34) v) = [a, b] ++ (m ++ tl.set i v) := by
    intro a b m tl i v hm
    rw [List.set_append_right _ _ (by simp), List.set_append_right _ _ (by simp [hm])]
    simp [hm]
  have hl : (u8s h).length = 32 := by rw [u8s_len, hh]
  rw [hs _ _ _ _ 2 _ hl, hs _ _ _ _ 3 _ hl, hs _ _ _ _ 4 _ hl]
  rfl
end Go.Proofs.YtajkmblcphdnbaaGreat
