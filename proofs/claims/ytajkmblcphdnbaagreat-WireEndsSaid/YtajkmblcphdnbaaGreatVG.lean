import Derived.Test.YtajkmblcphdnbaaGreatWHA
import Derived.Test.YtajkmblcphdnbaaGreatWT
import Derived.Test.YtajkmblcphdnbaaGreatWN
import Derived.Test.YtajkmblcphdnbaaGreatWP
import Derived.Test.YtajkmblcphdnbaaGreatVD
/-! Readers and writers: right ones, none, and such that nobody made: printed by genx.py. -/
namespace Go.Proofs.YtajkmblcphdnbaaGreat
open Go.RowKit
set_option linter.unusedVariables false
set_option linter.unusedSimpArgs false

/-- A reader's (a writer's) sort: one that was made, none, one that nobody made. -/
inductive RM where
  | live (a : Nat)
  | nil
  | raw (a : Nat)
/-- Its block. -/
def RM.S : RM → Nat → Prop
  | .live a, k => k = a
  | .nil, _ => False
  | .raw a, k => k = a
def RdX (w : World) (p : Value) : RM → Option (List Nat) → Prop
  | .live a, st => p = .pointer (some ⟨a, 0, none⟩) ∧ RdA w a st
  | .nil, st => p = .pointer none ∧ st = none
  | .raw a, st => p = .pointer (some ⟨a, 0, none⟩) ∧ (∃ b sl, Blk w a 69 [.bool false, .bool b, sl]) ∧ st = none
theorem RdX.qt {w w' : World} {p : Value} {m : RM} {st : Option (List Nat)} (h : RdX w p m st) (q : Qt w w') : RdX w' p m st := by
  cases m with
  | live a => exact ⟨h.1, h.2.qt q⟩
  | nil => exact h
  | raw a => obtain ⟨h1, ⟨b, sl, hb⟩, h2⟩ := h; exact ⟨h1, ⟨b, sl, hb.qt q⟩, h2⟩
theorem RdX.lt {w : World} {p : Value} {m : RM} {st : Option (List Nat)} (h : RdX w p m st) : ∀ k, m.S k → k < w.heap.size := by
  cases m with
  | live a => rintro k rfl; exact h.2.lt
  | nil => intro k hk; exact hk.elim
  | raw a => rintro k rfl; obtain ⟨_, ⟨b, sl, hb⟩, _⟩ := h; exact hb.lt
/-- What an error is. -/
def errX : RM → Option (List Nat) → Int
  | .live _, st => if st.isSome then 0 else 4
  | _, _ => 1
theorem U8_x (p : Value) (m : RM) (st : Option (List Nat)) (w : World) (h : RdX w p m st) : Calls Tryz.prog 43 #[p] w fun e w' => e = .returned (.int .i64 (num 1 st : Nat)) ∧ RdX w' p m (nxt 1 st) ∧ Gs m.S w w' := by
  cases m with
  | live a =>
    obtain ⟨rfl, hr⟩ := h
    exact (U8_any a st w hr).mono (by rintro e w' ⟨rfl, h, q⟩; exact ⟨rfl, ⟨rfl, h⟩, Gs.of_og q rfl⟩)
  | nil =>
    obtain ⟨rfl, rfl⟩ := h
    exact (U8_dead _ w (.inl rfl)).mono (by rintro e w' ⟨rfl, q⟩; exact ⟨rfl, ⟨rfl, rfl⟩, Gs.of_qt q⟩)
  | raw a =>
    obtain ⟨rfl, ⟨b, sl, hb⟩, rfl⟩ := h
    exact (U8_dead _ w (.inr ⟨a, false, b, sl, rfl, hb, .inl rfl⟩)).mono (by rintro e w' ⟨rfl, q⟩; exact ⟨rfl, ⟨rfl, ⟨b, sl, hb.qt q⟩, rfl⟩, Gs.of_qt q⟩)
theorem U16_x (p : Value) (m : RM) (st : Option (List Nat)) (w : World) (h : RdX w p m st) : Calls Tryz.prog 44 #[p] w fun e w' => e = .returned (.int .i64 (num 2 st : Nat)) ∧ RdX w' p m (nxt 2 st) ∧ Gs m.S w w' := by
  cases m with
  | live a =>
    obtain ⟨rfl, hr⟩ := h
    exact (U16_any a st w hr).mono (by rintro e w' ⟨rfl, h, q⟩; exact ⟨rfl, ⟨rfl, h⟩, Gs.of_og q rfl⟩)
  | nil =>
    obtain ⟨rfl, rfl⟩ := h
    exact (U16_dead _ w (.inl rfl)).mono (by rintro e w' ⟨rfl, q⟩; exact ⟨rfl, ⟨rfl, rfl⟩, Gs.of_qt q⟩)
  | raw a =>
    obtain ⟨rfl, ⟨b, sl, hb⟩, rfl⟩ := h
    exact (U16_dead _ w (.inr ⟨a, false, b, sl, rfl, hb, .inl rfl⟩)).mono (by rintro e w' ⟨rfl, q⟩; exact ⟨rfl, ⟨rfl, ⟨b, sl, hb.qt q⟩, rfl⟩, Gs.of_qt q⟩)
theorem U32_x (p : Value) (m : RM) (st : Option (List Nat)) (w : World) (h : RdX w p m st) : Calls Tryz.prog 45 #[p] w fun e w' => e = .returned (.int .i64 (num 4 st : Nat)) ∧ RdX w' p m (nxt 4 st) ∧ Gs m.S w w' := by
  cases m with
  | live a =>
    obtain ⟨rfl, hr⟩ := h
    exact (U32_any a st w hr).mono (by rintro e w' ⟨rfl, h, q⟩; exact ⟨rfl, ⟨rfl, h⟩, Gs.of_og q rfl⟩)
  | nil =>
    obtain ⟨rfl, rfl⟩ := h
    exact (U32_dead _ w (.inl rfl)).mono (by rintro e w' ⟨rfl, q⟩; exact ⟨rfl, ⟨rfl, rfl⟩, Gs.of_qt q⟩)
  | raw a =>
    obtain ⟨rfl, ⟨b, sl, hb⟩, rfl⟩ := h
    exact (U32_dead _ w (.inr ⟨a, false, b, sl, rfl, hb, .inl rfl⟩)).mono (by rintro e w' ⟨rfl, q⟩; exact ⟨rfl, ⟨rfl, ⟨b, sl, hb.qt q⟩, rfl⟩, Gs.of_qt q⟩)
theorem U64_x (p : Value) (m : RM) (st : Option (List Nat)) (w : World) (h : RdX w p m st) : Calls Tryz.prog 46 #[p] w fun e w' => e = .returned (.int .u64 (num 8 st : Nat)) ∧ RdX w' p m (nxt 8 st) ∧ Gs m.S w w' := by
  cases m with
  | live a =>
    obtain ⟨rfl, hr⟩ := h
    exact (U64_any a st w hr).mono (by rintro e w' ⟨rfl, h, q⟩; exact ⟨rfl, ⟨rfl, h⟩, Gs.of_og q rfl⟩)
  | nil =>
    obtain ⟨rfl, rfl⟩ := h
    exact (U64_dead _ w (.inl rfl)).mono (by rintro e w' ⟨rfl, q⟩; exact ⟨rfl, ⟨rfl, rfl⟩, Gs.of_qt q⟩)
  | raw a =>
    obtain ⟨rfl, ⟨b, sl, hb⟩, rfl⟩ := h
    exact (U64_dead _ w (.inr ⟨a, false, b, sl, rfl, hb, .inl rfl⟩)).mono (by rintro e w' ⟨rfl, q⟩; exact ⟨rfl, ⟨rfl, ⟨b, sl, hb.qt q⟩, rfl⟩, Gs.of_qt q⟩)
theorem I64_x (p : Value) (m : RM) (st : Option (List Nat)) (w : World) (h : RdX w p m st) : Calls Tryz.prog 47 #[p] w fun e w' => e = .returned (.int .i64 (wrap64 (num 8 st : Nat))) ∧ RdX w' p m (nxt 8 st) ∧ Gs m.S w w' := by
  cases m with
  | live a =>
    obtain ⟨rfl, hr⟩ := h
    exact (I64_any a st w hr).mono (by rintro e w' ⟨rfl, h, q⟩; exact ⟨rfl, ⟨rfl, h⟩, Gs.of_og q rfl⟩)
  | nil =>
    obtain ⟨rfl, rfl⟩ := h
    exact (I64_dead _ w (.inl rfl)).mono (by rintro e w' ⟨rfl, q⟩; exact ⟨congrArg (fun x => Ending.returned (.int .i64 x)) w64_0.symm, ⟨rfl, rfl⟩, Gs.of_qt q⟩)
  | raw a =>
    obtain ⟨rfl, ⟨b, sl, hb⟩, rfl⟩ := h
    exact (I64_dead _ w (.inr ⟨a, false, b, sl, rfl, hb, .inl rfl⟩)).mono (by rintro e w' ⟨rfl, q⟩; exact ⟨congrArg (fun x => Ending.returned (.int .i64 x)) w64_0.symm, ⟨rfl, ⟨b, sl, hb.qt q⟩, rfl⟩, Gs.of_qt q⟩)
theorem Hash_x (p : Value) (m : RM) (st : Option (List Nat)) (w : World) (h : RdX w p m st) : Calls Tryz.prog 48 #[p] w fun e w' => e = .returned (.agg (u8s (hshV st)).toArray) ∧ RdX w' p m (nxt 32 st) ∧ Gs m.S w w' := by
  cases m with
  | live a =>
    obtain ⟨rfl, hr⟩ := h
    exact (Hash_any a st w hr).mono (by rintro e w' ⟨rfl, h, q⟩; exact ⟨rfl, ⟨rfl, h⟩, Gs.of_og q rfl⟩)
  | nil =>
    obtain ⟨rfl, rfl⟩ := h
    exact (Hash_dead _ w (.inl rfl)).mono (by rintro e w' ⟨rfl, q⟩; exact ⟨rfl, ⟨rfl, rfl⟩, Gs.of_qt q⟩)
  | raw a =>
    obtain ⟨rfl, ⟨b, sl, hb⟩, rfl⟩ := h
    exact (Hash_dead _ w (.inr ⟨a, false, b, sl, rfl, hb, .inl rfl⟩)).mono (by rintro e w' ⟨rfl, q⟩; exact ⟨rfl, ⟨rfl, ⟨b, sl, hb.qt q⟩, rfl⟩, Gs.of_qt q⟩)
theorem Raw_x (p : Value) (m : RM) (n : Int) (st : Option (List Nat)) (w : World) (h : RdX w p m st) : Calls Tryz.prog 49 #[p, .int .i64 n] w fun e w' => ∃ r, e = .returned r ∧ OQ w' w.heap.size 1 r (rawB n st).length (u8s (rawB n st)) ∧ RdX w' p m (rawN n st) ∧ Gs m.S w w' := by
  cases m with
  | live a =>
    obtain ⟨rfl, hr⟩ := h
    exact (Raw_any a n st w hr).mono (by rintro e w' ⟨r, rfl, ho, h, q⟩; exact ⟨r, rfl, ho, ⟨rfl, h⟩, Gs.of_og q rfl⟩)
  | nil =>
    obtain ⟨rfl, rfl⟩ := h
    exact (Raw_dead _ n w (.inl rfl)).mono (by rintro e w' ⟨rfl, q⟩; exact ⟨_, rfl, OQ.nil _ _ _, ⟨rfl, rfl⟩, Gs.of_qt q⟩)
  | raw a =>
    obtain ⟨rfl, ⟨b, sl, hb⟩, rfl⟩ := h
    exact (Raw_dead _ n w (.inr ⟨a, false, b, sl, rfl, hb, .inl rfl⟩)).mono (by rintro e w' ⟨rfl, q⟩; exact ⟨_, rfl, OQ.nil _ _ _, ⟨rfl, ⟨b, sl, hb.qt q⟩, rfl⟩, Gs.of_qt q⟩)
theorem Text_x (p : Value) (m : RM) (n : Int) (st : Option (List Nat)) (w : World) (h : RdX w p m st) : Calls Tryz.prog 20 #[p, .int .i64 n] w fun e w' => e = .returned (.string (textV n st)) ∧ RdX w' p m (textN n st) ∧ Gs m.S w w' := by
  cases m with
  | live a =>
    obtain ⟨rfl, hr⟩ := h
    exact (Text_any a n st w hr).mono (by rintro e w' ⟨rfl, h, q⟩; exact ⟨rfl, ⟨rfl, h⟩, Gs.of_og q rfl⟩)
  | nil =>
    obtain ⟨rfl, rfl⟩ := h
    exact (Text_dead _ n w (.inl rfl)).mono (by rintro e w' ⟨rfl, q⟩; exact ⟨rfl, ⟨rfl, rfl⟩, Gs.of_qt q⟩)
  | raw a =>
    obtain ⟨rfl, ⟨b, sl, hb⟩, rfl⟩ := h
    exact (Text_dead _ n w (.inr ⟨a, false, b, sl, rfl, hb, .inl rfl⟩)).mono (by rintro e w' ⟨rfl, q⟩; exact ⟨rfl, ⟨rfl, ⟨b, sl, hb.qt q⟩, rfl⟩, Gs.of_qt q⟩)
theorem Flag_x (p : Value) (m : RM) (st : Option (List Nat)) (w : World) (h : RdX w p m st) : Calls Tryz.prog 21 #[p] w fun e w' => e = .returned (.bool (flagV st)) ∧ RdX w' p m (flagN st) ∧ Gs m.S w w' := by
  cases m with
  | live a =>
    obtain ⟨rfl, hr⟩ := h
    exact (Flag_any a st w hr).mono (by rintro e w' ⟨rfl, h, q⟩; exact ⟨rfl, ⟨rfl, h⟩, Gs.of_og q rfl⟩)
  | nil =>
    obtain ⟨rfl, rfl⟩ := h
    exact (Flag_dead _ w (.inl rfl)).mono (by rintro e w' ⟨rfl, q⟩; exact ⟨rfl, ⟨rfl, rfl⟩, Gs.of_qt q⟩)
  | raw a =>
    obtain ⟨rfl, ⟨b, sl, hb⟩, rfl⟩ := h
    exact (Flag_dead _ w (.inr ⟨a, false, b, sl, rfl, hb, .inl rfl⟩)).mono (by rintro e w' ⟨rfl, q⟩; exact ⟨rfl, ⟨rfl, ⟨b, sl, hb.qt q⟩, rfl⟩, Gs.of_qt q⟩)
theorem Count_x (p : Value) (m : RM) (n : Int) (st : Option (List Nat)) (w : World) (h : RdX w p m st) : Calls Tryz.prog 19 #[p, .int .i64 n] w fun e w' => e = .returned (.int .i64 (cntV n st : Nat)) ∧ RdX w' p m (cntN n st) ∧ Gs m.S w w' := by
  cases m with
  | live a =>
    obtain ⟨rfl, hr⟩ := h
    exact (Count_any a n st w hr).mono (by rintro e w' ⟨rfl, h, q⟩; exact ⟨rfl, ⟨rfl, h⟩, Gs.of_og q rfl⟩)
  | nil =>
    obtain ⟨rfl, rfl⟩ := h
    exact (Count_dead _ n w (.inl rfl)).mono (by rintro e w' ⟨rfl, q⟩; exact ⟨rfl, ⟨rfl, rfl⟩, Gs.of_qt q⟩)
  | raw a =>
    obtain ⟨rfl, ⟨b, sl, hb⟩, rfl⟩ := h
    exact (Count_dead _ n w (.inr ⟨a, false, b, sl, rfl, hb, .inl rfl⟩)).mono (by rintro e w' ⟨rfl, q⟩; exact ⟨rfl, ⟨rfl, ⟨b, sl, hb.qt q⟩, rfl⟩, Gs.of_qt q⟩)
theorem Left_x (p : Value) (m : RM) (st : Option (List Nat)) (w : World) (h : RdX w p m st) : Calls Tryz.prog 50 #[p] w fun e w' => e = .returned (.int .i64 (leftV st : Nat)) ∧ RdX w' p m (leftN st) ∧ Gs m.S w w' := by
  cases m with
  | live a =>
    obtain ⟨rfl, hr⟩ := h
    exact (Left_any a st w hr).mono (by rintro e w' ⟨rfl, h, q⟩; exact ⟨rfl, ⟨rfl, h⟩, Gs.of_og q rfl⟩)
  | nil =>
    obtain ⟨rfl, rfl⟩ := h
    exact (Left_dead _ w (.inl rfl)).mono (by rintro e w' ⟨rfl, q⟩; exact ⟨rfl, ⟨rfl, rfl⟩, Gs.of_qt q⟩)
  | raw a =>
    obtain ⟨rfl, ⟨b, sl, hb⟩, rfl⟩ := h
    exact (Left_dead _ w (.inr ⟨a, false, b, sl, rfl, hb, .inl rfl⟩)).mono (by rintro e w' ⟨rfl, q⟩; exact ⟨rfl, ⟨rfl, ⟨b, sl, hb.qt q⟩, rfl⟩, Gs.of_qt q⟩)
theorem Err_x (p : Value) (m : RM) (st : Option (List Nat)) (w : World) (h : RdX w p m st) : Calls Tryz.prog 23 #[p] w fun e w' => e = .returned (.int .i64 (errX m st)) ∧ w = w' := by
  cases m with
  | live a =>
    obtain ⟨rfl, hr⟩ := h
    exact Err_any a st w hr
  | nil =>
    obtain ⟨rfl, rfl⟩ := h
    exact Err_nil w
  | raw a =>
    obtain ⟨rfl, ⟨b, sl, hb⟩, rfl⟩ := h
    exact Err_unmade a b sl w hb
theorem End_x (p : Value) (m : RM) (st : Option (List Nat)) (w : World) (h : RdX w p m st) : Calls Tryz.prog 22 #[p] w fun e w' => e = .returned (.bool (st == some [])) ∧ w = w' := by
  cases m with
  | live a =>
    obtain ⟨rfl, hr⟩ := h
    exact End_any a st w hr
  | nil =>
    obtain ⟨rfl, rfl⟩ := h
    exact End_nil w
  | raw a =>
    obtain ⟨rfl, ⟨b, sl, hb⟩, rfl⟩ := h
    exact End_unmade a b sl w hb
/-- A writer. -/
def WrX (S : Nat → Prop) (w : World) (p : Value) : RM → Option (List Nat) → Prop
  | .live a, st => p = .pointer (some ⟨a, 0, none⟩) ∧ WrA S w a st
  | .nil, st => p = .pointer none ∧ st = none ∧ ∀ k, S k → k < w.heap.size
  | .raw a, st => p = .pointer (some ⟨a, 0, none⟩) ∧ (∃ b sl, Blk w a 61 [.bool false, .bool b, sl]) ∧ st = none ∧ S a ∧ ∀ k, S k → k < w.heap.size
theorem WrX.lt {S : Nat → Prop} {w : World} {p : Value} {m : RM} {st : Option (List Nat)} (h : WrX S w p m st) : ∀ k, S k → k < w.heap.size := by
  cases m with
  | live a => exact h.2.lt
  | nil => exact h.2.2
  | raw a => exact h.2.2.2.2
theorem WrX.qt {S : Nat → Prop} {w w' : World} {p : Value} {m : RM} {st : Option (List Nat)} (h : WrX S w p m st) (q : Qt w w') : WrX S w' p m st := by
  cases m with
  | live a => exact ⟨h.1, h.2.qt q⟩
  | nil => exact ⟨h.1, h.2.1, fun k hk => Nat.lt_of_lt_of_le (h.2.2 k hk) q.size⟩
  | raw a => obtain ⟨h1, ⟨b, sl, hb⟩, h2, h3, h4⟩ := h; exact ⟨h1, ⟨b, sl, hb.qt q⟩, h2, h3, fun k hk => Nat.lt_of_lt_of_le (h4 k hk) q.size⟩
theorem WrX.mono {S S' : Nat → Prop} {w : World} {p : Value} {m : RM} {st : Option (List Nat)} (h : WrX S w p m st) (hs : ∀ k, S k → S' k) (hl : ∀ k, S' k → k < w.heap.size) : WrX S' w p m st := by
  cases m with
  | live a => exact ⟨h.1, h.2.mono hs hl⟩
  | nil => exact ⟨h.1, h.2.1, hl⟩
  | raw a => obtain ⟨h1, h5, h2, h3, h4⟩ := h; exact ⟨h1, h5, h2, hs _ h3, hl⟩
theorem WrX.gs {S R : Nat → Prop} {w w' : World} {p : Value} {m : RM} {st : Option (List Nat)} (h : WrX S w p m st) (q : Gs R w w') (hd : ∀ k, S k → ¬R k) : WrX S w' p m st := by
  cases m with
  | live a => exact ⟨h.1, h.2.gs q hd⟩
  | nil => exact ⟨h.1, h.2.1, fun k hk => Nat.lt_of_lt_of_le (h.2.2 k hk) q.size⟩
  | raw a => obtain ⟨h1, ⟨b, sl, hb⟩, h2, h3, h4⟩ := h; exact ⟨h1, ⟨b, sl, q.blk hb (hd _ h3)⟩, h2, h3, fun k hk => Nat.lt_of_lt_of_le (h4 k hk) q.size⟩
theorem WrX.fr0 {S : Nat → Prop} {w w' : World} {p : Value} {m : RM} {st : Option (List Nat)} (h : WrX S w p m st) (q : Qt w w') : WrX (Fr S w w') w' p m st ∧ Gs S w w' :=
  ⟨(h.qt q).mono (fun _ hk => .inl hk) (Fr.lt h.lt q.size), Gs.of_qt q⟩
theorem WrX.dead {S : Nat → Prop} {w : World} {p : Value} {m : RM} {st : Option (List Nat)} (h : WrX S w p m st) (hm : ∀ a, m ≠ .live a) : DeadW w p ∧ st = none := by
  cases m with
  | live a => exact absurd rfl (hm a)
  | nil => exact ⟨.inl h.1, h.2.1⟩
  | raw a => obtain ⟨h1, ⟨b, sl, hb⟩, h2, _⟩ := h; exact ⟨.inr ⟨a, false, b, sl, h1, hb, .inl rfl⟩, h2⟩
theorem xfr_alloc {S : Nat → Prop} {w w' : World} {p : Value} {m : RM} {st : Option (List Nat)} {o : Obj} (h : WrX (Fr S (w.alloc o) w') w' p m st) (g : Gs S (w.alloc o) w') (hlt : ∀ k, S k → k < w.heap.size) : WrX (Fr S w w') w' p m st ∧ Gs S w w' := by
  have q : Qt w (w.alloc o) := (Qt.refl w).alloc o
  have g2 : Gs S w w' := (Gs.of_qt q).trans (g.mono fun k _ h => .inl h)
  refine ⟨h.mono (fun k hk => ?_) (Fr.lt hlt g2.size), g2⟩
  rcases hk with hk | ⟨h1, h2⟩
  · exact .inl hk
  · exact .inr ⟨Nat.le_trans q.size h1, h2⟩
theorem xfr_chain {S : Nat → Prop} {w w1 w2 w3 : World} {p : Value} {m : RM} {st : Option (List Nat)} (h : WrX (Fr (Fr S w w1) w2 w3) w3 p m st) (g1 : Gs S w w1) (q : Qt w1 w2) (g3 : Gs (Fr S w w1) w2 w3) (hlt : ∀ k, S k → k < w.heap.size) : WrX (Fr S w w3) w3 p m st ∧ Gs S w w3 := by
  have g2 : Gs S w w3 := g1.trans ((Gs.of_qt q).trans (g3.mono fun k _ h => .inl h))
  have z1 := g1.size
  have z2 := q.size
  have z3 := g3.size
  refine ⟨h.mono (fun k hk => ?_) (Fr.lt hlt g2.size), g2⟩
  rcases hk with (hk | ⟨h1, h2⟩) | ⟨h1, h2⟩
  · exact .inl hk
  · exact .inr ⟨h1, by omega⟩
  · exact .inr ⟨by omega, h2⟩
theorem below_x (S : Nat → Prop) (p : Value) (m : RM) (k : Nat) (n : Int) (st : Option (List Nat)) (w : World) (hW : WrX S w p m st) (hk : k ≤ 7) (hn9 : n < 9223372036854775808) (hl : lenO st + k ≤ 140737488355328) :
    Calls Tryz.prog 64 #[p, .int .i64 n, .int .i64 (k : Int)] w fun e w' =>
      e = .returned (.tuple #[]) ∧ WrX (Fr S w w') w' p m (wBel k n st) ∧ Gs S w w' := by
  cases m with
  | live a => obtain ⟨rfl, hW⟩ := hW; exact (below_any S a k n st w hW hk hn9 hl).mono (by rintro e w' ⟨rfl, h, q⟩; exact ⟨rfl, ⟨rfl, h⟩, q⟩)
  | nil => obtain ⟨hd, rfl⟩ := hW.dead (by intro a h; cases h); exact (below_dead p n k w hd).mono (by rintro e w' ⟨rfl, q⟩; exact ⟨rfl, hW.fr0 q⟩)
  | raw a => obtain ⟨hd, rfl⟩ := hW.dead (by intro a h; cases h); exact (below_dead p n k w hd).mono (by rintro e w' ⟨rfl, q⟩; exact ⟨rfl, hW.fr0 q⟩)
theorem wnumber_x (S : Nat → Prop) (p : Value) (m : RM) (n k : Nat) (st : Option (List Nat)) (w : World) (hW : WrX S w p m st) (hn : n < 18446744073709551616) (hk : k ≤ 8) (hl : lenO st + k ≤ 140737488355328) :
    Calls Tryz.prog 74 #[p, .int .u64 (n : Int), .int .i64 (k : Int)] w fun e w' =>
      e = .returned (.tuple #[]) ∧ WrX (Fr S w w') w' p m (st.map (· ++ beB k n)) ∧ Gs S w w' := by
  cases m with
  | live a => obtain ⟨rfl, hW⟩ := hW; exact (wnumber_any S a n k st w hW hn hk hl).mono (by rintro e w' ⟨rfl, h, q⟩; exact ⟨rfl, ⟨rfl, h⟩, q⟩)
  | nil => obtain ⟨hd, rfl⟩ := hW.dead (by intro a h; cases h); exact (wnumber_dead w p n k hd).mono (by rintro e w' ⟨rfl, rfl⟩; exact ⟨rfl, hW.fr0 (Qt.refl w)⟩)
  | raw a => obtain ⟨hd, rfl⟩ := hW.dead (by intro a h; cases h); exact (wnumber_dead w p n k hd).mono (by rintro e w' ⟨rfl, rfl⟩; exact ⟨rfl, hW.fr0 (Qt.refl w)⟩)
theorem wRaw_x (S : Nat → Prop) (p : Value) (m : RM) (v : Value) (b : List Nat) (st : Option (List Nat)) (w : World) (hW : WrX S w p m st) (hs : Rd w v b.length (u8s b)) (h8 : ∀ x ∈ b, x < 256) (hl : lenO st + b.length ≤ 140737488355328) :
    Calls Tryz.prog 30 #[p, v] w fun e w' => e = .returned (.tuple #[]) ∧ WrX (Fr S w w') w' p m (st.map (· ++ b)) ∧ Gs S w w' := by
  cases m with
  | live a => obtain ⟨rfl, hW⟩ := hW; exact (wRaw_any S a v b st w hW hs h8 hl).mono (by rintro e w' ⟨rfl, h, q⟩; exact ⟨rfl, ⟨rfl, h⟩, q⟩)
  | nil => obtain ⟨hd, rfl⟩ := hW.dead (by intro a h; cases h); exact (wRaw_dead p v w hd).mono (by rintro e w' ⟨rfl, rfl⟩; exact ⟨rfl, hW.fr0 (Qt.refl w)⟩)
  | raw a => obtain ⟨hd, rfl⟩ := hW.dead (by intro a h; cases h); exact (wRaw_dead p v w hd).mono (by rintro e w' ⟨rfl, rfl⟩; exact ⟨rfl, hW.fr0 (Qt.refl w)⟩)
theorem wSpoil_nil (w : World) : Calls Tryz.prog 31 #[.pointer none] w fun e w' => e = .returned (.tuple #[]) ∧ w = w' := by
  go_enter Tryz.func31, Tryz.ntmps31
  go_wp2
  go_end0
  exact ⟨rfl, rfl⟩
theorem wSpoil_unmade (a : Nat) (b : Bool) (sl : Value) (w : World) (hb : Blk w a 61 [.bool false, .bool b, sl]) : Calls Tryz.prog 31 #[.pointer (some ⟨a, 0, none⟩)] w fun e w' => e = .returned (.tuple #[]) ∧ Blk w' a 61 [.bool false, .bool true, sl] ∧ Og a w w' := by
  have c1 : w.cell? ⟨a, 1, none⟩ = some (.bool b) := hb.cell 1
  have f1 : w.frozen? ⟨a, 1, none⟩ = false := hb.frozen 1
  have HB := Lib.hid hb
  clear hb
  go_enter Tryz.func31, Tryz.ntmps31
  go_wp2_with (go_at_call 76; go_enter Tryz.func76, Tryz.ntmps76)
  go_end0
  exact ⟨rfl, HB.out.set 1 _, (Og.refl a w).setCell (.inl rfl) _⟩
theorem wSpoil_x (S : Nat → Prop) (p : Value) (m : RM) (st : Option (List Nat)) (w : World) (hW : WrX S w p m st) :
    Calls Tryz.prog 31 #[p] w fun e w' => e = .returned (.tuple #[]) ∧ WrX (Fr S w w') w' p m none ∧ Gs S w w' := by
  cases m with
  | live a => obtain ⟨rfl, hW⟩ := hW; exact (wSpoil_any S a st w hW).mono (by rintro e w' ⟨rfl, h, q⟩; exact ⟨rfl, ⟨rfl, h⟩, q⟩)
  | nil =>
    obtain ⟨rfl, rfl, hl⟩ := hW
    exact (wSpoil_nil w).mono (by rintro e w' ⟨rfl, rfl⟩; exact ⟨rfl, ⟨rfl, rfl, Fr.lt hl (Nat.le_refl _)⟩, Gs.refl _ _⟩)
  | raw a =>
    obtain ⟨rfl, ⟨b, sl, hb⟩, rfl, hs, hl⟩ := hW
    exact (wSpoil_unmade a b sl w hb).mono (by rintro e w' ⟨rfl, h, q⟩; exact ⟨rfl, ⟨rfl, ⟨_, _, h⟩, rfl, .inl hs, Fr.lt hl q.size⟩, Gs.of_og q hs⟩)
theorem wBytes_nil (w : World) : Calls Tryz.prog 11 #[.pointer none] w fun e w' => e = .returned (.tuple #[.slice none 0 0, .int .i64 1]) ∧ w = w' := by
  go_enter Tryz.func11, Tryz.ntmps11
  go_wp2
  go_ret2
  exact ⟨rfl, rfl⟩
theorem wBytes_unmade (a : Nat) (b : Bool) (sl : Value) (w : World) (hb : Blk w a 61 [.bool false, .bool b, sl]) : Calls Tryz.prog 11 #[.pointer (some ⟨a, 0, none⟩)] w fun e w' => e = .returned (.tuple #[.slice none 0 0, .int .i64 1]) ∧ w = w' := by
  have c0 : w.cell? ⟨a, 0, none⟩ = some (.bool false) := hb.cell 0
  clear hb
  go_enter Tryz.func11, Tryz.ntmps11
  go_wp2
  go_ret2
  exact ⟨rfl, rfl⟩
theorem wU8_x (S : Nat → Prop) (p : Value) (m : RM) (n : Int) (st : Option (List Nat)) (w : World) (hW : WrX S w p m st) (hn8 : -9223372036854775808 ≤ n) (hn9 : n < 9223372036854775808) (hl : lenO st + 1 ≤ 140737488355328) :
    Calls Tryz.prog 25 #[p, .int .i64 n] w fun e w' => e = .returned (.tuple #[]) ∧ WrX (Fr S w w') w' p m (wBel 1 n st) ∧ Gs S w w' := by
  have HN := Lib.hid (below_x S p m 1 n st w hW (by omega) (by omega) hl)
  clear hW hl
  go_enter Tryz.func25, Tryz.ntmps25
  go_wp2_with (go_at_call 64; refine HN.out.mono ?_; rintro e w' ⟨rfl, hw, hg⟩; (have HW := Lib.hid hw); (have HG := Lib.hid hg); clear hw hg)
  go_end0
  exact ⟨rfl, HW.out, HG.out⟩
theorem wU16_x (S : Nat → Prop) (p : Value) (m : RM) (n : Int) (st : Option (List Nat)) (w : World) (hW : WrX S w p m st) (hn8 : -9223372036854775808 ≤ n) (hn9 : n < 9223372036854775808) (hl : lenO st + 2 ≤ 140737488355328) :
    Calls Tryz.prog 16 #[p, .int .i64 n] w fun e w' => e = .returned (.tuple #[]) ∧ WrX (Fr S w w') w' p m (wBel 2 n st) ∧ Gs S w w' := by
  have HN := Lib.hid (below_x S p m 2 n st w hW (by omega) (by omega) hl)
  clear hW hl
  go_enter Tryz.func16, Tryz.ntmps16
  go_wp2_with (go_at_call 64; refine HN.out.mono ?_; rintro e w' ⟨rfl, hw, hg⟩; (have HW := Lib.hid hw); (have HG := Lib.hid hg); clear hw hg)
  go_end0
  exact ⟨rfl, HW.out, HG.out⟩
theorem wU32_x (S : Nat → Prop) (p : Value) (m : RM) (n : Int) (st : Option (List Nat)) (w : World) (hW : WrX S w p m st) (hn8 : -9223372036854775808 ≤ n) (hn9 : n < 9223372036854775808) (hl : lenO st + 4 ≤ 140737488355328) :
    Calls Tryz.prog 26 #[p, .int .i64 n] w fun e w' => e = .returned (.tuple #[]) ∧ WrX (Fr S w w') w' p m (wBel 4 n st) ∧ Gs S w w' := by
  have HN := Lib.hid (below_x S p m 4 n st w hW (by omega) (by omega) hl)
  clear hW hl
  go_enter Tryz.func26, Tryz.ntmps26
  go_wp2_with (go_at_call 64; refine HN.out.mono ?_; rintro e w' ⟨rfl, hw, hg⟩; (have HW := Lib.hid hw); (have HG := Lib.hid hg); clear hw hg)
  go_end0
  exact ⟨rfl, HW.out, HG.out⟩
theorem wU64_x (S : Nat → Prop) (p : Value) (m : RM) (n : Nat) (st : Option (List Nat)) (w : World) (hW : WrX S w p m st) (hn : n < 18446744073709551616) (hl : lenO st + 8 ≤ 140737488355328) :
    Calls Tryz.prog 27 #[p, .int .u64 (n : Int)] w fun e w' => e = .returned (.tuple #[]) ∧ WrX (Fr S w w') w' p m (st.map (· ++ beB 8 n)) ∧ Gs S w w' := by
  have HN := Lib.hid (wnumber_x S p m n 8 st w hW hn (by omega) hl)
  clear hW hl
  go_enter Tryz.func27, Tryz.ntmps27
  go_wp2_with (go_at_call 74; refine HN.out.mono ?_; rintro e w' ⟨rfl, hw, hg⟩; (have HW := Lib.hid hw); (have HG := Lib.hid hg); clear hw hg)
  go_end0
  exact ⟨rfl, HW.out, HG.out⟩
set_option maxRecDepth 100000 in
theorem wI64_x (S : Nat → Prop) (p : Value) (m : RM) (n : Nat) (st : Option (List Nat)) (w : World) (hW : WrX S w p m st) (hn : n < 18446744073709551616) (hl : lenO st + 8 ≤ 140737488355328) :
    Calls Tryz.prog 28 #[p, .int .i64 (wrap64 (n : Int))] w fun e w' => e = .returned (.tuple #[]) ∧ WrX (Fr S w w') w' p m (st.map (· ++ beB 8 n)) ∧ Gs S w w' := by
  have HN := Lib.hid (wnumber_x S p m n 8 st w hW hn (by omega) hl)
  have he := u64_of_i64 n hn
  have HC : ∀ w, (convert 2 23 (.int .i64 (wrap64 (n : Int)))).run Tryz.prog w = .ok (.int .u64 (n : Int)) w := fun w => by rw [run_convert_int (P := Tryz.prog) (w := w) 2 23 .i64 _ (by kernel_rfl) (by kernel_rfl), show Tryz.prog.intKind 23 = .u64 from by kernel_rfl, he]
  obtain ⟨mm, hm⟩ : ∃ mm, mm = wrap64 (n : Int) := ⟨_, rfl⟩
  rw [← hm] at HC ⊢
  clear hW hl he hm
  go_enter Tryz.func28, Tryz.ntmps28
  go_wp2_with (first
    | (refine wp_conv rfl 2 23 (.tmp 5) rfl _ rfl (fun v' w' => v' = .int .u64 (n : Int) ∧ w = w') ⟨_, _, HC _, rfl, rfl⟩ ?_; rintro v' w' ⟨rfl, rfl⟩)
    | (go_at_call 74; refine HN.out.mono ?_; rintro e w' ⟨rfl, hw, hg⟩; (have HW := Lib.hid hw); (have HG := Lib.hid hg); clear hw hg))
  go_end0
  exact ⟨rfl, HW.out, HG.out⟩
theorem wHash_x (S : Nat → Prop) (p : Value) (m : RM) (h : List Nat) (st : Option (List Nat)) (w : World) (hW : WrX S w p m st) (hh : h.length = 32) (h8 : ∀ x ∈ h, x < 256) (hl : lenO st + 32 ≤ 140737488355328) :
    Calls Tryz.prog 29 #[p, .agg (u8s h).toArray] w fun e w' => e = .returned (.tuple #[]) ∧ WrX (Fr S w w') w' p m (st.map (· ++ h)) ∧ Gs S w w' := by
  have HR := fun w1 (q : Qt w w1) v (hs : Rd w1 v h.length (u8s h)) => wRaw_x S p m v h st w1 (hW.qt q) hs h8 (by rw [hh]; exact hl)
  have hlt := hW.lt
  have HLT := Lib.hid hlt
  have H32 := Lib.hid hh
  have HRR := Lib.hid HR
  clear hW hl HR hlt hh
  go_enter Tryz.func29, Tryz.ntmps29
  go_wp2_with (first
    | (go_at_call 30; refine (HRR.out _ ((Qt.refl w).alloc _) _ (rd_row H32.out)).mono ?_; rintro e w' ⟨rfl, hw, hg⟩; (have HW := Lib.hid hw); (have HG := Lib.hid hg); clear hw hg))
  go_end0
  exact ⟨rfl, xfr_alloc HW.out HG.out HLT.out⟩
set_option maxRecDepth 100000 in
theorem wText_x (S : Nat → Prop) (p : Value) (m : RM) (b : List Nat) (st : Option (List Nat)) (w : World) (hW : WrX S w p m st) (h8 : ∀ x ∈ b, x < 256) (hb9 : b.length ≤ 140737488351232) (hl : lenO st + 2 + b.length ≤ 140737488355328) :
    Calls Tryz.prog 17 #[p, .string (str b)] w fun e w' => e = .returned (.tuple #[]) ∧ WrX (Fr S w w') w' p m ((wBel 2 (b.length : Int) st).map (· ++ b)) ∧ Gs S w w' := by
  have HN := Lib.hid (wU16_x S p m (b.length : Int) st w hW (by omega) (by omega) (by omega))
  have hlt := hW.lt
  have hln : lenO (wBel 2 (b.length : Int) st) + b.length ≤ 140737488355328 := by have := lenO_wBel 2 (b.length : Int) st; omega
  have HR := Lib.hid (fun w1 S1 (h1 : WrX S1 w1 p m (wBel 2 (b.length : Int) st)) v (hs : Rd w1 v b.length (u8s b)) => wRaw_x S1 p m v b _ w1 h1 hs h8 hln)
  have HLT := Lib.hid hlt
  have H8 := Lib.hid h8
  have hsz : (str b).size = b.length := str_size b
  have HSZ := Lib.hid hsz
  obtain ⟨s, hs⟩ : ∃ s, s = str b := ⟨_, rfl⟩
  rw [← hs] at hsz ⊢
  have HS := Lib.hid hs
  have hsz9 : s.size ≤ 140737488351232 := by omega
  have HE : (Value.int .i64 (s.size : Int)) = .int .i64 (b.length : Int) := by rw [hsz]
  have HEE := Lib.hid HE
  clear hW hl hlt hln hs h8 hsz HE hb9
  go_enter Tryz.func17, Tryz.ntmps17
  go_wp2_with (first
    | (go_at_call 16; rw [HEE.out]; refine HN.out.mono ?_; rintro e w1 ⟨rfl, hw, hg⟩; (have HW := Lib.hid hw); (have HG := Lib.hid hg); clear hw hg)
    | (refine wp_conv rfl 9 26 (.tmp 9) rfl _ rfl (fun v' w' => Rd w' v' b.length (u8s b) ∧ Qt w1 w') (by rw [HS.out]; exact conv_bytes 9 26 5 (by kernel_rfl) (by kernel_rfl) (by kernel_rfl) b H8.out w1) ?_; rintro v2 w2 ⟨hr2, hq2⟩; (have HR2 := Lib.hid hr2); (have HQ2 := Lib.hid hq2); obtain ⟨vb, vd, rfl, _⟩ := hr2; clear hq2)
    | (go_at_call 30; refine (HR.out _ _ (WrX.qt HW.out HQ2.out) _ HR2.out).mono ?_; rintro e w3 ⟨rfl, hw, hg⟩; (have HW3 := Lib.hid hw); (have HG3 := Lib.hid hg); clear hw hg))
  go_end0
  exact ⟨rfl, xfr_chain HW3.out HG.out HQ2.out HG3.out HLT.out⟩
theorem wFlag_x (S : Nat → Prop) (p : Value) (m : RM) (is : Bool) (st : Option (List Nat)) (w : World) (hW : WrX S w p m st) (hl : lenO st + 1 ≤ 140737488355328) :
    Calls Tryz.prog 18 #[p, .bool is] w fun e w' => e = .returned (.tuple #[]) ∧ WrX (Fr S w w') w' p m (wBel 1 (if is then 1 else 0) st) ∧ Gs S w w' := by
  cases is with
  | false =>
    have HF := Lib.hid (wU8_x S p m 0 st w hW (by omega) (by omega) hl)
    clear hW hl
    go_enter Tryz.func18, Tryz.ntmps18
    go_wp2_with (go_at_call 25; refine HF.out.mono ?_; rintro e w' ⟨rfl, hw, hg⟩; (have HW := Lib.hid hw); (have HG := Lib.hid hg); clear hw hg)
    go_end0
    exact ⟨rfl, HW.out, HG.out⟩
  | true =>
    have HF := Lib.hid (wU8_x S p m 1 st w hW (by omega) (by omega) hl)
    clear hW hl
    go_enter Tryz.func18, Tryz.ntmps18
    go_wp2_with (go_at_call 25; refine HF.out.mono ?_; rintro e w' ⟨rfl, hw, hg⟩; (have HW := Lib.hid hw); (have HG := Lib.hid hg); clear hw hg)
    go_end0
    exact ⟨rfl, HW.out, HG.out⟩
end Go.Proofs.YtajkmblcphdnbaaGreat
