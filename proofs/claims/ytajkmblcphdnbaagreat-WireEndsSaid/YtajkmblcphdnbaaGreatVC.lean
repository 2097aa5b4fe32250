import Derived.Test.YtajkmblcphdnbaaGreatVB
import Derived.Test.YtajkmblcphdnbaaGreatWC
import Derived.Lib.ConvBytes
/-! A writer's number that must be below a bound. -/
namespace Go.Proofs.YtajkmblcphdnbaaGreat
open Go.RowKit
set_option linter.unusedVariables false
set_option linter.unusedSimpArgs false

section
variable (a p : Nat) (x y sl : Value) (w : World)
theorem catchW_unmet (older : List PanicEntry) (hb : Blk w a 61 [x, y, sl]) (hp : w.cell? ⟨p, 0, none⟩ = some (.pointer (some ⟨a, 0, none⟩))) :
    CallsD Tryz.prog 93 #[.pointer (some ⟨p, 0, none⟩)] (.panicking (unmet :: older)) w fun e u' w' =>
      e = .returned (.tuple #[]) ∧ u' = .panicking ({ unmet with recovered := true } :: older) ∧ Blk w' a 61 [x, .bool true, sl] ∧ Og a w w' := by
  refine callsD_of_wpS Tryz.func93 rfl fun c₀ cs hu => ?_
  refine wpS_region_draw (by kernel_rfl) [[0, 1, 2, 3, 4], [0, 1, 3, 2, 4], [0, 3, 1, 2, 4], [3, 0, 1, 2, 4]] (by kernel_rfl) ?_
  have hp' : w.drew.cell? ⟨p, 0, none⟩ = some (.pointer (some ⟨a, 0, none⟩)) := hp
  have hcb : Blk w.drew a 61 [x, y, sl] := hb
  simp only [List.mem_cons, List.not_mem_nil, or_false, forall_eq_or_imp, forall_eq]
  refine ⟨?_, ?_, ?_, ?_⟩
  all_goals
    simp [wpOpsS, go_sem, recoverD, hu, Tryz.ntmps93, Exit.thenS, hp', unmet]
    refine (caught_unmet a _ x y [sl] _ hcb).mono ?_
    rintro e w1 ⟨rfl, hb1, hog⟩
    have hog' := (Og.refl a w).drew.trans hog
    clear hb hcb hp hp' hog
    exact ⟨rfl, _, rfl, .tuple #[], by simp [results, Tryz.results93, go_sem], rfl, rfl, hb1, hog'⟩
theorem catchW_idle (hb : Blk w a 61 [x, .bool false, sl]) (hp : w.cell? ⟨p, 0, none⟩ = some (.pointer (some ⟨a, 0, none⟩))) :
    CallsD Tryz.prog 93 #[.pointer (some ⟨p, 0, none⟩)] .returning w fun e u' w' => e = .returned (.tuple #[]) ∧ u' = .returning ∧ w' = w.drew := by
  refine callsD_of_wpS Tryz.func93 rfl fun c₀ cs hu => ?_
  refine wpS_region_draw (by kernel_rfl) [[0, 1, 2, 3, 4], [0, 1, 3, 2, 4], [0, 3, 1, 2, 4], [3, 0, 1, 2, 4]] (by kernel_rfl) ?_
  have hp' : w.drew.cell? ⟨p, 0, none⟩ = some (.pointer (some ⟨a, 0, none⟩)) := hp
  simp only [List.mem_cons, List.not_mem_nil, or_false, forall_eq_or_imp, forall_eq]
  refine ⟨?_, ?_, ?_, ?_⟩
  all_goals
    simp [wpOpsS, go_sem, recoverD, hu, Tryz.ntmps93, Exit.thenS, hp']
    refine (caught_nil _ _).mono ?_
    rintro e w1 ⟨rfl, rfl⟩
    cases c₀
    simp_all [bodyPostS, results, Tryz.results93]
end

theorem below_dead (p : Value) (n k : Int) (w : World) (hd : DeadW w p) : Calls Tryz.prog 64 #[p, .int .i64 n, .int .i64 k] w fun e w' => e = .returned (.tuple #[]) ∧ Qt w w' := by
  have HM := Lib.hid (may_dead _ p (hd.qt ((Qt.refl w).alloc (.cells #[p] 34))))
  obtain ⟨x, rfl⟩ : ∃ x, p = .pointer x := by rcases hd with rfl | ⟨a, _, _, _, rfl, _⟩ <;> exact ⟨_, rfl⟩
  clear hd
  go_enter_defers Tryz.func64, Tryz.ntmps64
  go_wp2_with (go_at_call 75; refine HM.out.mono ?_; rintro e w' ⟨rfl, rfl⟩)
  simp [bodyPostD, Leaves, results, Tryz.results64, go_sem]
  exact (Qt.refl w).alloc _
set_option maxRecDepth 100000 in
set_option maxHeartbeats 1000000 in
theorem below_yes (S : Nat → Prop) (a n k : Nat) (l : List Nat) (w : World) (hW : WrA S w a (some l)) (hk : k ≤ 7) (hn : n < 2 ^ (8 * k)) (hl : l.length + k ≤ 140737488355328) :
    Calls Tryz.prog 64 #[.pointer (some ⟨a, 0, none⟩), .int .i64 (n : Int), .int .i64 (k : Int)] w fun e w' =>
      e = .returned (.tuple #[]) ∧ WrA (Fr S w w') w' a (some (l ++ beB k n)) ∧ Gs S w w' := by
  have hmf : ∀ (fn : Fn) (first cap : Array Value) (w : World), (Instr.makeFunc fn first cap).run Tryz.prog w = .ok (.func fn first cap) w := fun _ _ _ _ => rfl
  have hq0 : Qt w (w.alloc (.cells #[.pointer (some ⟨a, 0, none⟩)] 34)) := (Qt.refl w).alloc _
  have hW1 := hW.qt hq0
  have hn2 : n < 2 ^ 56 := Nat.lt_of_lt_of_le hn (Nat.pow_le_pow_right (by decide) (by omega))
  have hn3 : n < 9223372036854775808 := Nat.lt_of_lt_of_le hn2 (by decide)
  have HN := Lib.hid (wnumber_some S a n k l _ hW1 (by omega) (by omega) hl)
  obtain ⟨sl, hb, _⟩ := hW1
  have HM := Lib.hid (may_any a true false sl _ hb)
  have hd1 : ((n : Int) / 2 ^ (8 * k) == 0) = true := by
    have e : (n : Int) / 2 ^ (8 * k) = ((n / 2 ^ (8 * k) : Nat) : Int) := by simp
    rw [e, Nat.div_eq_of_lt hn]; rfl
  have HW := Lib.hid hW
  have HQ0 := Lib.hid hq0
  clear hW hb hq0 hn2 hn
  go_enter_defers Tryz.func64, Tryz.ntmps64
  go_wp2_with (first
    | (go_at_call 75; refine HM.out.mono ?_; rintro e w' ⟨rfl, rfl⟩)
    | (go_at_call 68; refine (must_yes _).mono ?_; rintro e w' ⟨rfl, rfl⟩)
    | (go_at_call 74; refine HN.out.mono ?_; rintro e w' ⟨rfl, hw', hg'⟩; (have HW' := Lib.hid hw'); (have HG' := Lib.hid hg'); clear hw' hg'))
  refine leaves_cons (f := 93) (args := #[.pointer (some ⟨w.heap.size, 0, none⟩)]) (by simp) (by simp [go_sem]) ?_
  have hlt := HW.out.lt
  have hnS : ¬S w.heap.size := fun h => absurd (hlt _ h) (Nat.lt_irrefl _)
  have hp : w'.cell? ⟨w.heap.size, 0, none⟩ = some (.pointer (some ⟨a, 0, none⟩)) :=
    (World.cell?_of_block (a := ⟨w.heap.size, 0, none⟩) (HG'.out.block w.heap.size (by simp) hnS)).trans (by simp [go_sem])
  obtain ⟨sl', hb', hO'⟩ := HW'.out
  refine (catchW_idle a w.heap.size (.bool true) sl' w' hb' hp).mono ?_
  rintro e u' w'' ⟨rfl, rfl, rfl⟩
  simp [Leaves, settle, results, Tryz.results64, go_sem]
  have h1 : WrA (Fr (Fr S w _) _ w') w' a (some (l ++ beB k n)) := WrL.mono HW'.out (fun k hk => by
    rcases hk with h | h
    · exact .inl (.inl h)
    · exact .inr h) (Fr.lt (Fr.lt hlt HQ0.out.size) HG'.out.size)
  exact ⟨(h1.fr2 HQ0.out.size HG'.out.size hlt).qt (Qt.refl w').drew, ((Gs.of_qt HQ0.out).trans (HG'.out.mono fun k _ h => .inl h)).qt (Qt.refl w').drew⟩

set_option maxRecDepth 100000 in
set_option maxHeartbeats 1000000 in
theorem below_no (S : Nat → Prop) (a k : Nat) (n : Int) (l : List Nat) (w : World) (hW : WrA S w a (some l)) (hk : k ≤ 7) (hn : n < 0 ∨ ((2 ^ (8 * k) : Nat) : Int) ≤ n) (hn9 : n < 9223372036854775808) :
    Calls Tryz.prog 64 #[.pointer (some ⟨a, 0, none⟩), .int .i64 n, .int .i64 (k : Int)] w fun e w' =>
      e = .returned (.tuple #[]) ∧ WrA (Fr S w w') w' a none ∧ Gs S w w' := by
  have hmf : ∀ (fn : Fn) (first cap : Array Value) (w : World), (Instr.makeFunc fn first cap).run Tryz.prog w = .ok (.func fn first cap) w := fun _ _ _ _ => rfl
  have hq0 : Qt w (w.alloc (.cells #[.pointer (some ⟨a, 0, none⟩)] 34)) := (Qt.refl w).alloc _
  have hW1 := hW.qt hq0
  have hlt := hW.lt
  have hme := hW.me
  have hc0 : (w.alloc (.cells #[.pointer (some ⟨a, 0, none⟩)] 34)).cell? ⟨w.heap.size, 0, none⟩ = some (.pointer (some ⟨a, 0, none⟩)) := by simp [go_sem]
  obtain ⟨sl, hb, _⟩ := hW1
  have HM := Lib.hid (may_any a true false sl _ hb)
  have HLT := Lib.hid hlt
  have HQ0 := Lib.hid hq0
  have HB := Lib.hid hb
  have HC := Lib.hid hc0
  clear hW hb hq0 hlt hc0
  rcases hn with hn | hn
  · have hd0 : decide (0 ≤ n) = false := by simp; omega
    go_enter_defers Tryz.func64, Tryz.ntmps64
    go_wp2_with (first
      | (go_at_call 75; refine HM.out.mono ?_; rintro e w' ⟨rfl, rfl⟩)
      | (go_at_call 68; refine (must_no _).mono ?_; rintro e w' ⟨rfl, rfl⟩))
    refine leaves_cons (f := 93) (args := #[.pointer (some ⟨w.heap.size, 0, none⟩)]) (by simp) (by simp [go_sem]) ?_
    refine (catchW_unmet a w.heap.size (.bool true) (.bool false) sl _ [] HB.out HC.out).mono ?_
    rintro e u' w'' ⟨rfl, rfl, h1, h2⟩
    simp [Leaves, settle, results, Tryz.results64, go_sem]
    exact ⟨⟨⟨_, h1⟩, .inl hme, Fr.lt HLT.out (HQ0.out.og.trans h2).size⟩, Gs.of_og (HQ0.out.og.trans h2) hme⟩
  · have hp0 : (0 : Int) ≤ ((2 ^ (8 * k) : Nat) : Int) := Int.natCast_nonneg _
    have hd0 : decide (0 ≤ n) = true := by simp; omega
    have hn0 : 0 ≤ n := by simpa using hd0
    have hd1 : (n / 2 ^ (8 * k) == 0) = false := by
      obtain ⟨m, rfl⟩ := Int.eq_ofNat_of_zero_le hn0
      have e : (m : Int) / 2 ^ (8 * k) = ((m / 2 ^ (8 * k) : Nat) : Int) := by simp
      rw [e]
      have : 0 < m / 2 ^ (8 * k) := Nat.div_pos (by omega) (Nat.pow_pos (by decide))
      simp; omega
    clear hn hp0
    go_enter_defers Tryz.func64, Tryz.ntmps64
    go_wp2_with (first
      | (go_at_call 75; refine HM.out.mono ?_; rintro e w' ⟨rfl, rfl⟩)
      | (go_at_call 68; refine (must_no _).mono ?_; rintro e w' ⟨rfl, rfl⟩))
    refine leaves_cons (f := 93) (args := #[.pointer (some ⟨w.heap.size, 0, none⟩)]) (by simp) (by simp [go_sem]) ?_
    refine (catchW_unmet a w.heap.size (.bool true) (.bool false) sl _ [] HB.out HC.out).mono ?_
    rintro e u' w'' ⟨rfl, rfl, h1, h2⟩
    simp [Leaves, settle, results, Tryz.results64, go_sem]
    exact ⟨⟨⟨_, h1⟩, .inl hme, Fr.lt HLT.out (HQ0.out.og.trans h2).size⟩, Gs.of_og (HQ0.out.og.trans h2) hme⟩
/-- A number below a bound, put. -/
def BelC (k : Nat) (n : Int) : Prop := 0 ≤ n ∧ n < ((2 ^ (8 * k) : Nat) : Int)
instance (k : Nat) (n : Int) : Decidable (BelC k n) := inferInstanceAs (Decidable (_ ∧ _))
def wBel (k : Nat) (n : Int) : Option (List Nat) → Option (List Nat)
  | some l => if BelC k n then some (l ++ beB k n.toNat) else none
  | none => none
theorem wrNone {t : TypeId} {f : Bool → Value → List Value} {S : Nat → Prop} {w w' : World} {a : Nat} (h : WrL t f S w a none) (q : Qt w w') : WrL t f (Fr S w w') w' a none ∧ Gs S w w' :=
  ⟨(h.qt q).fr, Gs.of_qt q⟩
theorem below_any (S : Nat → Prop) (a k : Nat) (n : Int) (st : Option (List Nat)) (w : World) (hW : WrA S w a st) (hk : k ≤ 7) (hn9 : n < 9223372036854775808) (hl : lenO st + k ≤ 140737488355328) :
    Calls Tryz.prog 64 #[.pointer (some ⟨a, 0, none⟩), .int .i64 n, .int .i64 (k : Int)] w fun e w' =>
      e = .returned (.tuple #[]) ∧ WrA (Fr S w w') w' a (wBel k n st) ∧ Gs S w w' := by
  cases st with
  | none => exact (below_dead _ n k w hW.dead).mono (by rintro e w' ⟨rfl, q⟩; exact ⟨rfl, wrNone hW q⟩)
  | some l =>
    by_cases hc : BelC k n
    · rw [wBel, if_pos hc]
      obtain ⟨m, rfl⟩ := Int.eq_ofNat_of_zero_le hc.1
      exact below_yes S a m k l w hW hk (by have := hc.2; omega) hl
    · rw [wBel, if_neg hc]
      exact below_no S a k n l w hW hk (by unfold BelC at hc; omega) hn9

/-- A conversion, by what is known of its run. -/
theorem wp_conv {P : Program} {ops : Array Oper} {rest : List Oper} {o : Oper} {a : Act} {w : World} {Q : Exit → Act → World → Prop} (hgd : o.guard = none) (src dst : TypeId) (x : Operand) (ho : o.op = .convert src dst x) (v : Value) (hx : a.eval x = v)
    (R : Value → World → Prop) (hr : ∃ v' w', (convert src dst v).run P w = .ok v' w' ∧ R v' w') (h : ∀ v' w', R v' w' → wpList P ops Q rest (a.put o.dst v') w') : wpList P ops Q (o :: rest) a w := by
  refine wpList_plain hgd fun K hK => ?_
  obtain ⟨v', w', hrun, hR⟩ := hr
  unfold Oper.wp execOp
  simp only [ho, hx, Sem.run_bind, hrun, Result.andThen_ok, Sem.run_pure]
  exact hK _ _ (h v' w' hR)
theorem conv_bytes {P : Program} (src dst e : TypeId) (hs : P.underlying src = some .string) (hd : P.underlying dst = some (.slice e)) (he : P.underlying e = some (.int .u8)) (b : List Nat) (h8 : ∀ x ∈ b, x < 256) (w : World) :
    ∃ v' w', (convert src dst (.string (str b))).run P w = .ok v' w' ∧ Rd w' v' b.length (u8s b) ∧ Qt w w' := by
  refine ⟨_, _, Lib.run_convert_string_bytes w src dst e (str b) hs hd he, ?_, ?_⟩
  · rw [str_size]
    refine ⟨_, _, rfl, by have := grownCap_ge w b.length 0 e; exact this, .inr ⟨_, _, rfl, fun j u hu => ?_⟩⟩
    rw [u8s, List.getElem?_map] at hu
    cases hl : b[j]? with
    | none => rw [hl] at hu; cases hu
    | some y =>
      rw [hl] at hu; cases hu
      have hj := (List.getElem?_eq_some_iff.1 hl).1
      rw [Nat.zero_add, Lib.bytesWorld_cell w e (str b) j (by rw [str_size]; exact hj)]
      have e1 : (str b).data.toList.getD j 0 = UInt8.ofNat y := by simp [str, List.getD_eq_getElem?_getD, hl]
      rw [e1, UInt8.toNat_ofNat', Nat.mod_eq_of_lt (h8 y (List.mem_of_getElem? hl))]
  · exact ⟨rfl, rfl, rfl, by rw [Lib.bytesWorld_size]; omega, fun k hk => Lib.bytesWorld_at_old w e (str b) k hk⟩
theorem u64_of_i64 (n : Nat) (hn : n < 18446744073709551616) : IntKind.u64.wrap (wrap64 (n : Int)) = (n : Int) := by
  rw [IntKind.wrap_u64]
  unfold wrap64; omega
theorem rd_row {w : World} {h : List Nat} {t : TypeId} (h32 : h.length = 32) : Rd (w.alloc (.cells (u8s h).toArray t)) (.slice (some ⟨w.heap.size, 0, none⟩) 32 32) h.length (u8s h) := by
  rw [h32]
  exact ⟨_, _, rfl, Nat.le_refl _, .inr ⟨_, _, rfl, fun j u hu => by rw [World.cell?_alloc_new, Nat.zero_add]; simpa using hu⟩⟩
theorem fr_alloc {t : TypeId} {f : Bool → Value → List Value} {S : Nat → Prop} {w w' : World} {a : Nat} {st : Option (List Nat)} {o : Obj} (h : WrL t f (Fr S (w.alloc o) w') w' a st) (g : Gs S (w.alloc o) w') (hlt : ∀ k, S k → k < w.heap.size) : WrL t f (Fr S w w') w' a st ∧ Gs S w w' := by
  have q : Qt w (w.alloc o) := (Qt.refl w).alloc o
  have g2 : Gs S w w' := (Gs.of_qt q).trans (g.mono fun k _ h => .inl h)
  refine ⟨h.mono (fun k hk => ?_) (Fr.lt hlt g2.size), g2⟩
  rcases hk with hk | ⟨h1, h2⟩
  · exact .inl hk
  · exact .inr ⟨Nat.le_trans q.size h1, h2⟩
theorem fr_chain {t : TypeId} {f : Bool → Value → List Value} {S : Nat → Prop} {w w1 w2 w3 : World} {a : Nat} {st : Option (List Nat)} (h : WrL t f (Fr (Fr S w w1) w2 w3) w3 a st) (g1 : Gs S w w1) (q : Qt w1 w2) (g3 : Gs (Fr S w w1) w2 w3) (hlt : ∀ k, S k → k < w.heap.size) : WrL t f (Fr S w w3) w3 a st ∧ Gs S w w3 := by
  have g2 : Gs S w w3 := g1.trans ((Gs.of_qt q).trans (g3.mono fun k _ h => .inl h))
  have z1 := g1.size
  have z2 := q.size
  have z3 := g3.size
  refine ⟨h.mono (fun k hk => ?_) (Fr.lt hlt g2.size), g2⟩
  rcases hk with (hk | ⟨h1, h2⟩) | ⟨h1, h2⟩
  · exact .inl hk
  · exact .inr ⟨h1, by omega⟩
  · exact .inr ⟨by omega, h2⟩
theorem lenO_wBel (k : Nat) (n : Int) (st : Option (List Nat)) : lenO (wBel k n st) ≤ lenO st + k := by
  cases st with
  | none => exact Nat.zero_le _
  | some l =>
    rw [wBel]
    by_cases h : BelC k n
    · rw [if_pos h]; simp [lenO, beB_len]
    · rw [if_neg h]; exact Nat.zero_le _
end Go.Proofs.YtajkmblcphdnbaaGreat
