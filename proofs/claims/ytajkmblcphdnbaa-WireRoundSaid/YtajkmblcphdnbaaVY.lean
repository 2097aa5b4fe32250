import Derived.Test.YtajkmblcphdnbaaVX
/-! ask: printed by genask.py. -/
namespace Go.Proofs.Ytajkmblcphdnbaa
open Go.RowKit
set_option linter.unusedVariables false
set_option linter.unusedSimpArgs false

theorem eqI {t : TypeId} {q : IntKind} (a b : Int) (w : World) : (binOp .eql t (.int q a) (.int q b)).run Try.prog w = .ok (.bool (a == b)) w := by go_simp
theorem eqB {t : TypeId} (ht : Try.prog.underlying t = some .bool) (a b : Bool) (w : World) : (binOp .eql t (.bool a) (.bool b)).run Try.prog w = .ok (.bool (a == b)) w := run_eql_bool w t a b ht
theorem eqS {t : TypeId} (a b : ByteArray) (w : World) : (binOp .eql t (.string a) (.string b)).run Try.prog w = .ok (.bool (a.toList == b.toList)) w := by rw [binOp_string_eql]; rfl
theorem eqA (h g : List Nat) (hh : h.length = 32) (hg : g.length = 32) (h8 : ∀ z ∈ h, z < 256) (g8 : ∀ z ∈ g, z < 256) : ∃ r : Bool, (h = g → r = true) ∧ ∀ w, (binOp .eql 33 (.agg (u8s h).toArray) (.agg (u8s g).toArray)).run Try.prog w = .ok (.bool r) w := by
  obtain ⟨la, hla⟩ := Option.isSome_iff_exists.1 (lits_bytes (P := Try.prog) (t := 33) (e := 5) 3 h hh h8 (by kernel_rfl) (by kernel_rfl) (by kernel_rfl) (by kernel_rfl))
  obtain ⟨lb, hlb⟩ := Option.isSome_iff_exists.1 (lits_bytes (P := Try.prog) (t := 33) (e := 5) 3 g hg g8 (by kernel_rfl) (by kernel_rfl) (by kernel_rfl) (by kernel_rfl))
  have hfo : ∀ C : List Nat, C.length = 32 → (Value.agg (u8s C).toArray).formed Try.prog 33 = true := by
    intro C hl
    have hu : Try.prog.underlying 33 = some (.array 32 5) := by kernel_rfl
    simp only [Value.formed, hu, List.size_toArray, u8s_len, hl]
    have hc : Try.prog.cellsOf 33 = 32 := by kernel_rfl
    simp [hc]
  haveI := Classical.propDecidable (la = lb)
  refine ⟨decide (la = lb), fun e => ?_, fun w => ?_⟩
  · subst e
    rw [hla] at hlb
    cases hlb
    simp
  · obtain ⟨r, hr, hrt⟩ := run_equalIn_deep (P := Try.prog) 9996 4 33 (by kernel_rfl) w 5 5 (.agg (u8s h).toArray) (.agg (u8s g).toArray) la lb (hfo h hh) (hfo g hg) (by simpa [Value.cells] using hla) (by simpa [Value.cells] using hlb)
    have hrr : r = decide (la = lb) := by
      by_cases e : la = lb
      · rw [hrt.2 e]; simp [e]
      · cases r with
        | false => simp [e]
        | true => exact absurd (hrt.1 rfl) e
    rw [← hrr]
    have e2 : binOp .eql 33 (.agg (u8s h).toArray) (.agg (u8s g).toArray) = (do pure (.bool (← Op.equal 33 (.agg (u8s h).toArray) (.agg (u8s g).toArray))) : Sem Value) := by simp [binOp]
    rw [e2]
    simp only [Sem.run_bind, Op.equal, Op.maxDepth]
    rw [show (10000 : Nat) = 9996 + 4 from rfl, hr]
    simp
theorem gs_from {S : Nat → Prop} {w w1 w2 : World} (q : Qt w w1) (g : Gs S w1 w2) : Gs S w w2 := (Gs.of_qt q).trans (g.mono fun k _ h => .inl h)
theorem RdX.dead0 {w : World} {p : Value} {m : RM} (h : RdX w p m none) : Dead w p := by
  cases m with
  | live a => obtain ⟨rfl, hr⟩ := h; exact hr.dead
  | nil => exact .inl h.1
  | raw a => obtain ⟨rfl, ⟨b, sl, hb⟩, _⟩ := h; exact .inr ⟨a, false, b, sl, rfl, hb, .inl rfl⟩
/-- A reader's turn: nothing is turned where it is spoilt already. -/
def Gq (m : RM) (st : Option (List Nat)) (w w' : World) : Prop := Gs m.S w w' ∧ (st = none → Qt w w')
theorem gq_from {m : RM} {st : Option (List Nat)} {w w1 w2 : World} (q : Qt w w1) (g : Gq m st w1 w2) : Gq m st w w2 := ⟨gs_from q g.1, fun h => q.trans (g.2 h)⟩
theorem Gq.of_qt {m : RM} {st : Option (List Nat)} {w w1 : World} (q : Qt w w1) : Gq m st w w1 := ⟨Gs.of_qt q, fun _ => q⟩
theorem U8_g (p : Value) (m : RM) (st : Option (List Nat)) (w : World) (h : RdX w p m st) : Calls Try.prog 22 #[p] w fun e w' => e = .returned (.int .i64 (num 1 st : Nat)) ∧ RdX w' p m (nxt 1 st) ∧ Gq m st w w' := by
  cases st with
  | none => exact (U8_dead p w h.dead0).mono (by rintro e w' ⟨rfl, q⟩; exact ⟨rfl, h.qt q, Gq.of_qt q⟩)
  | some l => exact (U8_x p m _ w h).mono (by rintro e w' ⟨rfl, h, g⟩; exact ⟨rfl, h, g, fun e => by cases e⟩)
theorem U16_g (p : Value) (m : RM) (st : Option (List Nat)) (w : World) (h : RdX w p m st) : Calls Try.prog 35 #[p] w fun e w' => e = .returned (.int .i64 (num 2 st : Nat)) ∧ RdX w' p m (nxt 2 st) ∧ Gq m st w w' := by
  cases st with
  | none => exact (U16_dead p w h.dead0).mono (by rintro e w' ⟨rfl, q⟩; exact ⟨rfl, h.qt q, Gq.of_qt q⟩)
  | some l => exact (U16_x p m _ w h).mono (by rintro e w' ⟨rfl, h, g⟩; exact ⟨rfl, h, g, fun e => by cases e⟩)
theorem U32_g (p : Value) (m : RM) (st : Option (List Nat)) (w : World) (h : RdX w p m st) : Calls Try.prog 36 #[p] w fun e w' => e = .returned (.int .i64 (num 4 st : Nat)) ∧ RdX w' p m (nxt 4 st) ∧ Gq m st w w' := by
  cases st with
  | none => exact (U32_dead p w h.dead0).mono (by rintro e w' ⟨rfl, q⟩; exact ⟨rfl, h.qt q, Gq.of_qt q⟩)
  | some l => exact (U32_x p m _ w h).mono (by rintro e w' ⟨rfl, h, g⟩; exact ⟨rfl, h, g, fun e => by cases e⟩)
theorem U64_g (p : Value) (m : RM) (st : Option (List Nat)) (w : World) (h : RdX w p m st) : Calls Try.prog 37 #[p] w fun e w' => e = .returned (.int .u64 (num 8 st : Nat)) ∧ RdX w' p m (nxt 8 st) ∧ Gq m st w w' := by
  cases st with
  | none => exact (U64_dead p w h.dead0).mono (by rintro e w' ⟨rfl, q⟩; exact ⟨rfl, h.qt q, Gq.of_qt q⟩)
  | some l => exact (U64_x p m _ w h).mono (by rintro e w' ⟨rfl, h, g⟩; exact ⟨rfl, h, g, fun e => by cases e⟩)
theorem I64_g (p : Value) (m : RM) (st : Option (List Nat)) (w : World) (h : RdX w p m st) : Calls Try.prog 38 #[p] w fun e w' => e = .returned (.int .i64 (wrap64 (num 8 st : Nat))) ∧ RdX w' p m (nxt 8 st) ∧ Gq m st w w' := by
  cases st with
  | none => exact (I64_dead p w h.dead0).mono (by rintro e w' ⟨rfl, q⟩; exact ⟨by rw [show wrap64 ((num 8 none : Nat) : Int) = 0 from w64_0], h.qt q, Gq.of_qt q⟩)
  | some l => exact (I64_x p m _ w h).mono (by rintro e w' ⟨rfl, h, g⟩; exact ⟨rfl, h, g, fun e => by cases e⟩)
theorem Hash_g (p : Value) (m : RM) (st : Option (List Nat)) (w : World) (h : RdX w p m st) : Calls Try.prog 39 #[p] w fun e w' => e = .returned (.agg (u8s (hshV st)).toArray) ∧ RdX w' p m (nxt 32 st) ∧ Gq m st w w' := by
  cases st with
  | none => exact (Hash_dead p w h.dead0).mono (by rintro e w' ⟨rfl, q⟩; exact ⟨rfl, h.qt q, Gq.of_qt q⟩)
  | some l => exact (Hash_x p m _ w h).mono (by rintro e w' ⟨rfl, h, g⟩; exact ⟨rfl, h, g, fun e => by cases e⟩)
theorem Raw_g (p : Value) (m : RM) (n : Int) (st : Option (List Nat)) (w : World) (h : RdX w p m st) : Calls Try.prog 23 #[p, .int .i64 n] w fun e w' => ∃ r, e = .returned r ∧ OQ w' w.heap.size 1 r (rawB n st).length (u8s (rawB n st)) ∧ RdX w' p m (rawN n st) ∧ Gq m st w w' := by
  cases st with
  | none => exact (Raw_dead p n w h.dead0).mono (by rintro e w' ⟨rfl, q⟩; exact ⟨_, rfl, OQ.nil _ _ _, h.qt q, Gq.of_qt q⟩)
  | some l => exact (Raw_x p m n _ w h).mono (by rintro e w' ⟨r, rfl, ho, h, g⟩; exact ⟨r, rfl, ho, h, g, fun e => by cases e⟩)
theorem Text_g (p : Value) (m : RM) (n : Int) (st : Option (List Nat)) (w : World) (h : RdX w p m st) : Calls Try.prog 32 #[p, .int .i64 n] w fun e w' => e = .returned (.string (textV n st)) ∧ RdX w' p m (textN n st) ∧ Gq m st w w' := by
  cases st with
  | none => exact (Text_dead p n w h.dead0).mono (by rintro e w' ⟨rfl, q⟩; exact ⟨rfl, h.qt q, Gq.of_qt q⟩)
  | some l => exact (Text_x p m n _ w h).mono (by rintro e w' ⟨rfl, h, g⟩; exact ⟨rfl, h, g, fun e => by cases e⟩)
theorem Flag_g (p : Value) (m : RM) (st : Option (List Nat)) (w : World) (h : RdX w p m st) : Calls Try.prog 33 #[p] w fun e w' => e = .returned (.bool (flagV st)) ∧ RdX w' p m (flagN st) ∧ Gq m st w w' := by
  cases st with
  | none => exact (Flag_dead p w h.dead0).mono (by rintro e w' ⟨rfl, q⟩; exact ⟨rfl, h.qt q, Gq.of_qt q⟩)
  | some l => exact (Flag_x p m _ w h).mono (by rintro e w' ⟨rfl, h, g⟩; exact ⟨rfl, h, g, fun e => by cases e⟩)
theorem wpAnyH_str {P : Program} {md : Region.Mode} {ops : Array Oper} {Q : Exit → Act → World → Prop} {S S' : World → Prop} (hS : ∀ w, S' w → S w) : ∀ (fuel : Nat) (listed : Array Bool) (a : Act) (w : World), wpAnyH P md ops Q S' fuel listed a w → wpAnyH P md ops Q S fuel listed a w
  | 0, _, _, _, h => h
  | fuel + 1, _, _, _, h => ⟨h.1, fun i hi => wpOp_mono (fun a' w' h' => ⟨hS _ h'.1, wpAnyH_str hS fuel _ a' w' h'.2⟩) (h.2 i hi)⟩
/-- A call that comes up alone, of some result. -/
theorem clHE {P : Program} {md : Region.Mode} {ops : Array Oper} {Q : Exit → Act → World → Prop} {S : World → Prop} {a : Act} {w : World} {i : Nat} {oi : Oper} {fuel : Nat} {listed : Array Bool} (hi : ops[i]? = some oi) (hr : Region.ready md ops listed = [i]) (hw : Region.wanted oi (yielded ops a.tmps) = true)
    (f : FuncId) (args : Array Value) (hen : ∀ w, (execOp a.eval oi).run P w = .ok (.enter f args) w) (R : Value → World → Prop)
    (hc : Calls P f args w fun e w' => ∃ v, e = .returned v ∧ R v w') (h : ∀ v w' a', a' = a.put oi.dst v → R v w' → S w' ∧ wpAnyH P md ops Q S fuel (listed.setIfInBounds i true) a' w') : wpAnyH P md ops Q S (fuel + 1) listed a w := by
  refine wpAnyH_all hr (by simp) fun j hj => ?_
  obtain rfl := List.mem_singleton.1 hj
  refine wpOp_step hi fun K hK => ?_
  rw [if_pos hw]
  unfold Oper.wp
  rw [hen, Oper.upon_enter]
  exact hc.mono (by rintro e w' ⟨v, rfl, r⟩; exact hK _ _ (h v w' _ rfl r))
theorem lnS {P : Program} {a : Act} {o : Oper} {x : Operand} {t e : TypeId} {b : Option Addr} {n c : Nat} (ho : o.op = .call { callee := .builtin .len, args := #[x], argTypes := #[t] }) (hx : a.eval x = .slice b n c) (ht : P.underlying t = some (.slice e)) (w : World) :
    (execOp a.eval o).run P w = .ok (.value (.int .i64 (n : Int))) w := by
  unfold execOp
  simp [ho, resolve, invoke, builtin, hx]
  go_simp
theorem lnT {P : Program} {a : Act} {o : Oper} {x : Operand} {t : TypeId} {b : ByteArray} (ho : o.op = .call { callee := .builtin .len, args := #[x], argTypes := #[t] }) (hx : a.eval x = .string b) (ht : P.underlying t = some .string) (w : World) :
    (execOp a.eval o).run P w = .ok (.value (.int .i64 (b.size : Int))) w := by
  unfold execOp
  simp [ho, resolve, invoke, builtin, hx]
  go_simp
set_option maxRecDepth 100000 in
set_option maxHeartbeats 1000000 in
theorem ask_0 (p : Value) (m : RM) (x : PutD) (bv : Value) (st : Option (List Nat)) (w : World) (hr : RdX w p m st) (hso : StOk st) (hx : x.Ok) (hb : ∀ w1 w', Qt w w1 → Gs m.S w1 w' → Rd w' bv x.b.length (u8s x.b)) (hk : x.what % 10 = 0) :
    Calls Try.prog 25 #[p, .agg (putC x bv).toArray] w fun e w' => ∃ b, e = .returned (.bool b) ∧ (askT x st 0 → b = true) ∧ RdX w' p m (askN x st 0) ∧ Gq m st w w' := by
  have hq0 : Qt w (w.alloc (.cells (putC x bv).toArray 39)) := (Qt.refl w).alloc _
  have hblk : Blk (w.alloc (.cells (putC x bv).toArray 39)) w.heap.size 39 (putC x bv) := heap_alloc_new w _
  have HP := Lib.hid (fun w => pick_any x.what 10 w hx.w0 hx.w1 (by omega) (by omega))
  have hk' : Value.int .i64 (x.what % 10) = .int .i64 0 := by rw [hk]
  have HK := Lib.hid hk'
  have c0 : (w.alloc (.cells (putC x bv).toArray 39)).cell? ⟨w.heap.size, 0, none⟩ = some (.int .i64 x.what) := hblk.cell 0
  have hlt := hr.lt
  have HNS := Lib.hid (show ¬ m.S w.heap.size from fun h => Nat.lt_irrefl _ (hlt _ h))
  have HB := Lib.hid (hblk.qt (Qt.refl _).drew)
  have HQ0 := Lib.hid (show Qt w (World.drew _) from hq0.drew)
  have hr0 := hr.qt HQ0.out
  have HC := Lib.hid (U8_g p m st _ hr0)
  obtain ⟨ba, bc, rfl⟩ : ∃ ba bc, bv = .slice ba x.b.length bc := by obtain ⟨ba, bc, h, _⟩ := hb _ _ (Qt.refl w) (Gs.refl _ w); exact ⟨ba, bc, h⟩
  clear hr hx hso hb hq0 hblk hk hk' hlt hr0
  go_enter Try.func25, Try.ntmps25
  go_wp2_with (go_at_call 26; refine (HP.out _).mono ?_; rintro e w1 ⟨rfl, rfl⟩; rw [HK.out])
  refine wp_region_held (S := (fun W => Blk W w.heap.size 39 (putC x (.slice ba x.b.length bc)))) (by kernel_rfl) ?_
  change wpAnyH _ _ _ _ _ _ _ _ (World.drew _)
  refine genH fun F0 hA => ?_
  have z0 : F0.tmps.size = 81 := by rw [hA]; rfl
  have e0_0 : F0.eval (.tmp 0) = p := by rw [hA]; rfl
  have e3_0 : F0.eval (.tmp 3) = .pointer (some ⟨w.heap.size, 0, none⟩) := by rw [hA]; rfl
  have HA := Lib.hid hA
  clear hA
  have HS := Lib.hid HB.out
  refine tkH (i := 0) (oi := _) (v := p) rfl (by kernel_rfl) (by kernel_rfl) (by kernel_rfl) (fun _ _ _ h => h) HS.out (wantedN rfl) (fun w _ => mv1 rfl e0_0 w) ?_
  intro F1 hF
  replace hF : F1 = F0.put (some 10) (p) := hF
  have z1 : F1.tmps.size = 81 := by rw [hF]; simpa [Act.put] using z0
  have e3_1 := (show F1.eval (.tmp 3) = F0.eval (.tmp 3) by rw [hF]; exact evO (by decide)).trans e3_0
  have e10_1 : F1.eval (.tmp 10) = p := by rw [hF]; exact evS (by rw [z0]; decide)
  have HF1 := Lib.hid hF
  clear hF e0_0 e3_0
  refine tkH (i := 2) (oi := _) (v := .pointer (some ⟨w.heap.size, 1, none⟩)) rfl (by kernel_rfl) (by kernel_rfl) (by kernel_rfl) (fun _ _ _ h => h) HS.out (wantedN rfl) (fun w _ => fa1 rfl e3_1 (by go_simp)) ?_
  intro F2 hF
  replace hF : F2 = F1.put (some 12) (.pointer (some ⟨w.heap.size, 1, none⟩)) := hF
  have z2 : F2.tmps.size = 81 := by rw [hF]; simpa [Act.put] using z1
  have e10_2 := (show F2.eval (.tmp 10) = F1.eval (.tmp 10) by rw [hF]; exact evO (by decide)).trans e10_1
  have e12_2 : F2.eval (.tmp 12) = .pointer (some ⟨w.heap.size, 1, none⟩) := by rw [hF]; exact evS (by rw [z1]; decide)
  have HF2 := Lib.hid hF
  clear hF e3_1 e10_1
  refine tkH (i := 3) (oi := _) (v := .int .i64 x.n) rfl (by kernel_rfl) (by kernel_rfl) (by kernel_rfl) (fun _ _ _ h => h) HS.out (wantedN rfl) (fun w hs => ld1 rfl e12_2 (by have c := (Blk.cell hs 1).trans (rfl : _ = some (.int .i64 x.n : Value)); go_simp)) ?_
  intro F3 hF
  replace hF : F3 = F2.put (some 13) (.int .i64 x.n) := hF
  have z3 : F3.tmps.size = 81 := by rw [hF]; simpa [Act.put] using z2
  have e10_3 := (show F3.eval (.tmp 10) = F2.eval (.tmp 10) by rw [hF]; exact evO (by decide)).trans e10_2
  have e13_3 : F3.eval (.tmp 13) = .int .i64 x.n := by rw [hF]; exact evS (by rw [z2]; decide)
  have HF3 := Lib.hid hF
  clear hF e10_2 e12_2
  refine clH (i := 1) (oi := _) rfl (by kernel_rfl) (wantedN rfl) 22 #[p] (clF rfl (by simp only [List.map_toArray, List.map_cons, List.map_nil, e10_3] <;> rfl) (fun args w => by kernel_rfl)) (.int .i64 (num 1 st : Nat)) (fun w' => RdX w' p m (askN x st 0) ∧ Gq m st (World.drew (w.alloc (.cells (putC x (.slice ba x.b.length bc)).toArray 39))) w') (HC.out.mono (by rintro e w' ⟨rfl, h, g⟩; exact ⟨rfl, h, g⟩)) ?_
  intro w2 F4 hF ⟨hr2, hg2⟩
  replace hF : F4 = F3.put (some 11) (.int .i64 (num 1 st : Nat)) := hF
  have hb2 := hg2.1.blk HB.out HNS.out
  have HR2 := Lib.hid hr2
  have HG2 := Lib.hid hg2
  have HB2 := Lib.hid hb2
  clear hr2 hg2 hb2
  refine ⟨HB2.out, ?_⟩
  have HS := Lib.hid (HB2.out)
  have z4 : F4.tmps.size = 81 := by rw [hF]; simpa [Act.put] using z3
  have e11_4 : F4.eval (.tmp 11) = .int .i64 (num 1 st : Nat) := by rw [hF]; exact evS (by rw [z3]; decide)
  have e13_4 := (show F4.eval (.tmp 13) = F3.eval (.tmp 13) by rw [hF]; exact evO (by decide)).trans e13_3
  have HF4 := Lib.hid hF
  clear hF e10_3 e13_3
  refine tkH (i := 4) (oi := _) (v := .bool (((num 1 st : Nat) : Int) == x.n)) rfl (by kernel_rfl) (by kernel_rfl) (by kernel_rfl) (fun _ _ _ h => h) HS.out (wantedN rfl) (fun w _ => bo1 rfl e11_4 e13_4 (by go_simp) (eqI _ _ w)) ?_
  intro F5 hF
  replace hF : F5 = F4.put (some 14) (.bool (((num 1 st : Nat) : Int) == x.n)) := hF
  have z5 : F5.tmps.size = 81 := by rw [hF]; simpa [Act.put] using z4
  have e14_5 : F5.eval (.tmp 14) = .bool (((num 1 st : Nat) : Int) == x.n) := by rw [hF]; exact evS (by rw [z4]; decide)
  have HF5 := Lib.hid hF
  clear hF e11_4 e13_4
  refine tkH (i := 5) (oi := _) (v := .bool (((num 1 st : Nat) : Int) == x.n)) rfl (by kernel_rfl) (by kernel_rfl) (by kernel_rfl) (fun _ _ _ h => h) HS.out (wantedN rfl) (fun w _ => as1 rfl e14_5 w) ?_
  intro F6 hF
  replace hF : F6 = F5.put (some 4) (.bool (((num 1 st : Nat) : Int) == x.n)) := hF
  have z6 : F6.tmps.size = 81 := by rw [hF]; simpa [Act.put] using z5
  have e4_6 : F6.eval (.tmp 4) = .bool (((num 1 st : Nat) : Int) == x.n) := by rw [hF]; exact evS (by rw [z5]; decide)
  have HF6 := Lib.hid hF
  clear hF e14_5
  refine wpAnyH_done (by kernel_rfl) ?_ _
  rw [HF6.out, HF5.out, HF4.out, HF3.out, HF2.out, HF1.out, HA.out]
  simp only [Act.put, List.setIfInBounds_toArray, List.set_cons_succ, List.set_cons_zero]
  clear HF6 HF5 HF4 HF3 HF2 HF1 HA z6 z5 z4 z3 z2 z1 z0 e4_6
  go_wp2
  go_ret
  exact ⟨_, rfl, fun h => by simp only [askT] at h; rw [h]; simp, HR2.out, gq_from HQ0.out HG2.out⟩
set_option maxRecDepth 100000 in
set_option maxHeartbeats 1000000 in
theorem ask_1 (p : Value) (m : RM) (x : PutD) (bv : Value) (st : Option (List Nat)) (w : World) (hr : RdX w p m st) (hso : StOk st) (hx : x.Ok) (hb : ∀ w1 w', Qt w w1 → Gs m.S w1 w' → Rd w' bv x.b.length (u8s x.b)) (hk : x.what % 10 = 1) :
    Calls Try.prog 25 #[p, .agg (putC x bv).toArray] w fun e w' => ∃ b, e = .returned (.bool b) ∧ (askT x st 1 → b = true) ∧ RdX w' p m (askN x st 1) ∧ Gq m st w w' := by
  have hq0 : Qt w (w.alloc (.cells (putC x bv).toArray 39)) := (Qt.refl w).alloc _
  have hblk : Blk (w.alloc (.cells (putC x bv).toArray 39)) w.heap.size 39 (putC x bv) := heap_alloc_new w _
  have HP := Lib.hid (fun w => pick_any x.what 10 w hx.w0 hx.w1 (by omega) (by omega))
  have hk' : Value.int .i64 (x.what % 10) = .int .i64 1 := by rw [hk]
  have HK := Lib.hid hk'
  have c0 : (w.alloc (.cells (putC x bv).toArray 39)).cell? ⟨w.heap.size, 0, none⟩ = some (.int .i64 x.what) := hblk.cell 0
  have hlt := hr.lt
  have HNS := Lib.hid (show ¬ m.S w.heap.size from fun h => Nat.lt_irrefl _ (hlt _ h))
  have HB := Lib.hid (hblk.qt (Qt.refl _).drew)
  have HQ0 := Lib.hid (show Qt w (World.drew _) from hq0.drew)
  have hr0 := hr.qt HQ0.out
  have HC := Lib.hid (U16_g p m st _ hr0)
  obtain ⟨ba, bc, rfl⟩ : ∃ ba bc, bv = .slice ba x.b.length bc := by obtain ⟨ba, bc, h, _⟩ := hb _ _ (Qt.refl w) (Gs.refl _ w); exact ⟨ba, bc, h⟩
  clear hr hx hso hb hq0 hblk hk hk' hlt hr0
  go_enter Try.func25, Try.ntmps25
  go_wp2_with (go_at_call 26; refine (HP.out _).mono ?_; rintro e w1 ⟨rfl, rfl⟩; rw [HK.out])
  refine wp_region_held (S := (fun W => Blk W w.heap.size 39 (putC x (.slice ba x.b.length bc)))) (by kernel_rfl) ?_
  change wpAnyH _ _ _ _ _ _ _ _ (World.drew _)
  refine genH fun F0 hA => ?_
  have z0 : F0.tmps.size = 81 := by rw [hA]; rfl
  have e0_0 : F0.eval (.tmp 0) = p := by rw [hA]; rfl
  have e3_0 : F0.eval (.tmp 3) = .pointer (some ⟨w.heap.size, 0, none⟩) := by rw [hA]; rfl
  have HA := Lib.hid hA
  clear hA
  have HS := Lib.hid HB.out
  refine tkH (i := 0) (oi := _) (v := p) rfl (by kernel_rfl) (by kernel_rfl) (by kernel_rfl) (fun _ _ _ h => h) HS.out (wantedN rfl) (fun w _ => mv1 rfl e0_0 w) ?_
  intro F1 hF
  replace hF : F1 = F0.put (some 17) (p) := hF
  have z1 : F1.tmps.size = 81 := by rw [hF]; simpa [Act.put] using z0
  have e3_1 := (show F1.eval (.tmp 3) = F0.eval (.tmp 3) by rw [hF]; exact evO (by decide)).trans e3_0
  have e17_1 : F1.eval (.tmp 17) = p := by rw [hF]; exact evS (by rw [z0]; decide)
  have HF1 := Lib.hid hF
  clear hF e0_0 e3_0
  refine tkH (i := 2) (oi := _) (v := .pointer (some ⟨w.heap.size, 1, none⟩)) rfl (by kernel_rfl) (by kernel_rfl) (by kernel_rfl) (fun _ _ _ h => h) HS.out (wantedN rfl) (fun w _ => fa1 rfl e3_1 (by go_simp)) ?_
  intro F2 hF
  replace hF : F2 = F1.put (some 19) (.pointer (some ⟨w.heap.size, 1, none⟩)) := hF
  have z2 : F2.tmps.size = 81 := by rw [hF]; simpa [Act.put] using z1
  have e17_2 := (show F2.eval (.tmp 17) = F1.eval (.tmp 17) by rw [hF]; exact evO (by decide)).trans e17_1
  have e19_2 : F2.eval (.tmp 19) = .pointer (some ⟨w.heap.size, 1, none⟩) := by rw [hF]; exact evS (by rw [z1]; decide)
  have HF2 := Lib.hid hF
  clear hF e3_1 e17_1
  refine tkH (i := 3) (oi := _) (v := .int .i64 x.n) rfl (by kernel_rfl) (by kernel_rfl) (by kernel_rfl) (fun _ _ _ h => h) HS.out (wantedN rfl) (fun w hs => ld1 rfl e19_2 (by have c := (Blk.cell hs 1).trans (rfl : _ = some (.int .i64 x.n : Value)); go_simp)) ?_
  intro F3 hF
  replace hF : F3 = F2.put (some 20) (.int .i64 x.n) := hF
  have z3 : F3.tmps.size = 81 := by rw [hF]; simpa [Act.put] using z2
  have e17_3 := (show F3.eval (.tmp 17) = F2.eval (.tmp 17) by rw [hF]; exact evO (by decide)).trans e17_2
  have e20_3 : F3.eval (.tmp 20) = .int .i64 x.n := by rw [hF]; exact evS (by rw [z2]; decide)
  have HF3 := Lib.hid hF
  clear hF e17_2 e19_2
  refine clH (i := 1) (oi := _) rfl (by kernel_rfl) (wantedN rfl) 35 #[p] (clF rfl (by simp only [List.map_toArray, List.map_cons, List.map_nil, e17_3] <;> rfl) (fun args w => by kernel_rfl)) (.int .i64 (num 2 st : Nat)) (fun w' => RdX w' p m (askN x st 1) ∧ Gq m st (World.drew (w.alloc (.cells (putC x (.slice ba x.b.length bc)).toArray 39))) w') (HC.out.mono (by rintro e w' ⟨rfl, h, g⟩; exact ⟨rfl, h, g⟩)) ?_
  intro w2 F4 hF ⟨hr2, hg2⟩
  replace hF : F4 = F3.put (some 18) (.int .i64 (num 2 st : Nat)) := hF
  have hb2 := hg2.1.blk HB.out HNS.out
  have HR2 := Lib.hid hr2
  have HG2 := Lib.hid hg2
  have HB2 := Lib.hid hb2
  clear hr2 hg2 hb2
  refine ⟨HB2.out, ?_⟩
  have HS := Lib.hid (HB2.out)
  have z4 : F4.tmps.size = 81 := by rw [hF]; simpa [Act.put] using z3
  have e18_4 : F4.eval (.tmp 18) = .int .i64 (num 2 st : Nat) := by rw [hF]; exact evS (by rw [z3]; decide)
  have e20_4 := (show F4.eval (.tmp 20) = F3.eval (.tmp 20) by rw [hF]; exact evO (by decide)).trans e20_3
  have HF4 := Lib.hid hF
  clear hF e17_3 e20_3
  refine tkH (i := 4) (oi := _) (v := .bool (((num 2 st : Nat) : Int) == x.n)) rfl (by kernel_rfl) (by kernel_rfl) (by kernel_rfl) (fun _ _ _ h => h) HS.out (wantedN rfl) (fun w _ => bo1 rfl e18_4 e20_4 (by go_simp) (eqI _ _ w)) ?_
  intro F5 hF
  replace hF : F5 = F4.put (some 21) (.bool (((num 2 st : Nat) : Int) == x.n)) := hF
  have z5 : F5.tmps.size = 81 := by rw [hF]; simpa [Act.put] using z4
  have e21_5 : F5.eval (.tmp 21) = .bool (((num 2 st : Nat) : Int) == x.n) := by rw [hF]; exact evS (by rw [z4]; decide)
  have HF5 := Lib.hid hF
  clear hF e18_4 e20_4
  refine tkH (i := 5) (oi := _) (v := .bool (((num 2 st : Nat) : Int) == x.n)) rfl (by kernel_rfl) (by kernel_rfl) (by kernel_rfl) (fun _ _ _ h => h) HS.out (wantedN rfl) (fun w _ => as1 rfl e21_5 w) ?_
  intro F6 hF
  replace hF : F6 = F5.put (some 4) (.bool (((num 2 st : Nat) : Int) == x.n)) := hF
  have z6 : F6.tmps.size = 81 := by rw [hF]; simpa [Act.put] using z5
  have e4_6 : F6.eval (.tmp 4) = .bool (((num 2 st : Nat) : Int) == x.n) := by rw [hF]; exact evS (by rw [z5]; decide)
  have HF6 := Lib.hid hF
  clear hF e21_5
  refine wpAnyH_done (by kernel_rfl) ?_ _
  rw [HF6.out, HF5.out, HF4.out, HF3.out, HF2.out, HF1.out, HA.out]
  simp only [Act.put, List.setIfInBounds_toArray, List.set_cons_succ, List.set_cons_zero]
  clear HF6 HF5 HF4 HF3 HF2 HF1 HA z6 z5 z4 z3 z2 z1 z0 e4_6
  go_wp2
  go_ret
  exact ⟨_, rfl, fun h => by simp only [askT] at h; rw [h]; simp, HR2.out, gq_from HQ0.out HG2.out⟩
set_option maxRecDepth 100000 in
set_option maxHeartbeats 1000000 in
theorem ask_2 (p : Value) (m : RM) (x : PutD) (bv : Value) (st : Option (List Nat)) (w : World) (hr : RdX w p m st) (hso : StOk st) (hx : x.Ok) (hb : ∀ w1 w', Qt w w1 → Gs m.S w1 w' → Rd w' bv x.b.length (u8s x.b)) (hk : x.what % 10 = 2) :
    Calls Try.prog 25 #[p, .agg (putC x bv).toArray] w fun e w' => ∃ b, e = .returned (.bool b) ∧ (askT x st 2 → b = true) ∧ RdX w' p m (askN x st 2) ∧ Gq m st w w' := by
  have hq0 : Qt w (w.alloc (.cells (putC x bv).toArray 39)) := (Qt.refl w).alloc _
  have hblk : Blk (w.alloc (.cells (putC x bv).toArray 39)) w.heap.size 39 (putC x bv) := heap_alloc_new w _
  have HP := Lib.hid (fun w => pick_any x.what 10 w hx.w0 hx.w1 (by omega) (by omega))
  have hk' : Value.int .i64 (x.what % 10) = .int .i64 2 := by rw [hk]
  have HK := Lib.hid hk'
  have c0 : (w.alloc (.cells (putC x bv).toArray 39)).cell? ⟨w.heap.size, 0, none⟩ = some (.int .i64 x.what) := hblk.cell 0
  have hlt := hr.lt
  have HNS := Lib.hid (show ¬ m.S w.heap.size from fun h => Nat.lt_irrefl _ (hlt _ h))
  have HB := Lib.hid (hblk.qt (Qt.refl _).drew)
  have HQ0 := Lib.hid (show Qt w (World.drew _) from hq0.drew)
  have hr0 := hr.qt HQ0.out
  have HC := Lib.hid (U32_g p m st _ hr0)
  obtain ⟨ba, bc, rfl⟩ : ∃ ba bc, bv = .slice ba x.b.length bc := by obtain ⟨ba, bc, h, _⟩ := hb _ _ (Qt.refl w) (Gs.refl _ w); exact ⟨ba, bc, h⟩
  clear hr hx hso hb hq0 hblk hk hk' hlt hr0
  go_enter Try.func25, Try.ntmps25
  go_wp2_with (go_at_call 26; refine (HP.out _).mono ?_; rintro e w1 ⟨rfl, rfl⟩; rw [HK.out])
  refine wp_region_held (S := (fun W => Blk W w.heap.size 39 (putC x (.slice ba x.b.length bc)))) (by kernel_rfl) ?_
  change wpAnyH _ _ _ _ _ _ _ _ (World.drew _)
  refine genH fun F0 hA => ?_
  have z0 : F0.tmps.size = 81 := by rw [hA]; rfl
  have e0_0 : F0.eval (.tmp 0) = p := by rw [hA]; rfl
  have e3_0 : F0.eval (.tmp 3) = .pointer (some ⟨w.heap.size, 0, none⟩) := by rw [hA]; rfl
  have HA := Lib.hid hA
  clear hA
  have HS := Lib.hid HB.out
  refine tkH (i := 0) (oi := _) (v := p) rfl (by kernel_rfl) (by kernel_rfl) (by kernel_rfl) (fun _ _ _ h => h) HS.out (wantedN rfl) (fun w _ => mv1 rfl e0_0 w) ?_
  intro F1 hF
  replace hF : F1 = F0.put (some 24) (p) := hF
  have z1 : F1.tmps.size = 81 := by rw [hF]; simpa [Act.put] using z0
  have e3_1 := (show F1.eval (.tmp 3) = F0.eval (.tmp 3) by rw [hF]; exact evO (by decide)).trans e3_0
  have e24_1 : F1.eval (.tmp 24) = p := by rw [hF]; exact evS (by rw [z0]; decide)
  have HF1 := Lib.hid hF
  clear hF e0_0 e3_0
  refine tkH (i := 2) (oi := _) (v := .pointer (some ⟨w.heap.size, 1, none⟩)) rfl (by kernel_rfl) (by kernel_rfl) (by kernel_rfl) (fun _ _ _ h => h) HS.out (wantedN rfl) (fun w _ => fa1 rfl e3_1 (by go_simp)) ?_
  intro F2 hF
  replace hF : F2 = F1.put (some 26) (.pointer (some ⟨w.heap.size, 1, none⟩)) := hF
  have z2 : F2.tmps.size = 81 := by rw [hF]; simpa [Act.put] using z1
  have e24_2 := (show F2.eval (.tmp 24) = F1.eval (.tmp 24) by rw [hF]; exact evO (by decide)).trans e24_1
  have e26_2 : F2.eval (.tmp 26) = .pointer (some ⟨w.heap.size, 1, none⟩) := by rw [hF]; exact evS (by rw [z1]; decide)
  have HF2 := Lib.hid hF
  clear hF e3_1 e24_1
  refine tkH (i := 3) (oi := _) (v := .int .i64 x.n) rfl (by kernel_rfl) (by kernel_rfl) (by kernel_rfl) (fun _ _ _ h => h) HS.out (wantedN rfl) (fun w hs => ld1 rfl e26_2 (by have c := (Blk.cell hs 1).trans (rfl : _ = some (.int .i64 x.n : Value)); go_simp)) ?_
  intro F3 hF
  replace hF : F3 = F2.put (some 27) (.int .i64 x.n) := hF
  have z3 : F3.tmps.size = 81 := by rw [hF]; simpa [Act.put] using z2
  have e24_3 := (show F3.eval (.tmp 24) = F2.eval (.tmp 24) by rw [hF]; exact evO (by decide)).trans e24_2
  have e27_3 : F3.eval (.tmp 27) = .int .i64 x.n := by rw [hF]; exact evS (by rw [z2]; decide)
  have HF3 := Lib.hid hF
  clear hF e24_2 e26_2
  refine clH (i := 1) (oi := _) rfl (by kernel_rfl) (wantedN rfl) 36 #[p] (clF rfl (by simp only [List.map_toArray, List.map_cons, List.map_nil, e24_3] <;> rfl) (fun args w => by kernel_rfl)) (.int .i64 (num 4 st : Nat)) (fun w' => RdX w' p m (askN x st 2) ∧ Gq m st (World.drew (w.alloc (.cells (putC x (.slice ba x.b.length bc)).toArray 39))) w') (HC.out.mono (by rintro e w' ⟨rfl, h, g⟩; exact ⟨rfl, h, g⟩)) ?_
  intro w2 F4 hF ⟨hr2, hg2⟩
  replace hF : F4 = F3.put (some 25) (.int .i64 (num 4 st : Nat)) := hF
  have hb2 := hg2.1.blk HB.out HNS.out
  have HR2 := Lib.hid hr2
  have HG2 := Lib.hid hg2
  have HB2 := Lib.hid hb2
  clear hr2 hg2 hb2
  refine ⟨HB2.out, ?_⟩
  have HS := Lib.hid (HB2.out)
  have z4 : F4.tmps.size = 81 := by rw [hF]; simpa [Act.put] using z3
  have e25_4 : F4.eval (.tmp 25) = .int .i64 (num 4 st : Nat) := by rw [hF]; exact evS (by rw [z3]; decide)
  have e27_4 := (show F4.eval (.tmp 27) = F3.eval (.tmp 27) by rw [hF]; exact evO (by decide)).trans e27_3
  have HF4 := Lib.hid hF
  clear hF e24_3 e27_3
  refine tkH (i := 4) (oi := _) (v := .bool (((num 4 st : Nat) : Int) == x.n)) rfl (by kernel_rfl) (by kernel_rfl) (by kernel_rfl) (fun _ _ _ h => h) HS.out (wantedN rfl) (fun w _ => bo1 rfl e25_4 e27_4 (by go_simp) (eqI _ _ w)) ?_
  intro F5 hF
  replace hF : F5 = F4.put (some 28) (.bool (((num 4 st : Nat) : Int) == x.n)) := hF
  have z5 : F5.tmps.size = 81 := by rw [hF]; simpa [Act.put] using z4
  have e28_5 : F5.eval (.tmp 28) = .bool (((num 4 st : Nat) : Int) == x.n) := by rw [hF]; exact evS (by rw [z4]; decide)
  have HF5 := Lib.hid hF
  clear hF e25_4 e27_4
  refine tkH (i := 5) (oi := _) (v := .bool (((num 4 st : Nat) : Int) == x.n)) rfl (by kernel_rfl) (by kernel_rfl) (by kernel_rfl) (fun _ _ _ h => h) HS.out (wantedN rfl) (fun w _ => as1 rfl e28_5 w) ?_
  intro F6 hF
  replace hF : F6 = F5.put (some 4) (.bool (((num 4 st : Nat) : Int) == x.n)) := hF
  have z6 : F6.tmps.size = 81 := by rw [hF]; simpa [Act.put] using z5
  have e4_6 : F6.eval (.tmp 4) = .bool (((num 4 st : Nat) : Int) == x.n) := by rw [hF]; exact evS (by rw [z5]; decide)
  have HF6 := Lib.hid hF
  clear hF e28_5
  refine wpAnyH_done (by kernel_rfl) ?_ _
  rw [HF6.out, HF5.out, HF4.out, HF3.out, HF2.out, HF1.out, HA.out]
  simp only [Act.put, List.setIfInBounds_toArray, List.set_cons_succ, List.set_cons_zero]
  clear HF6 HF5 HF4 HF3 HF2 HF1 HA z6 z5 z4 z3 z2 z1 z0 e4_6
  go_wp2
  go_ret
  exact ⟨_, rfl, fun h => by simp only [askT] at h; rw [h]; simp, HR2.out, gq_from HQ0.out HG2.out⟩
set_option maxRecDepth 100000 in
set_option maxHeartbeats 1000000 in
theorem ask_3 (p : Value) (m : RM) (x : PutD) (bv : Value) (st : Option (List Nat)) (w : World) (hr : RdX w p m st) (hso : StOk st) (hx : x.Ok) (hb : ∀ w1 w', Qt w w1 → Gs m.S w1 w' → Rd w' bv x.b.length (u8s x.b)) (hk : x.what % 10 = 3) :
    Calls Try.prog 25 #[p, .agg (putC x bv).toArray] w fun e w' => ∃ b, e = .returned (.bool b) ∧ (askT x st 3 → b = true) ∧ RdX w' p m (askN x st 3) ∧ Gq m st w w' := by
  have hq0 : Qt w (w.alloc (.cells (putC x bv).toArray 39)) := (Qt.refl w).alloc _
  have hblk : Blk (w.alloc (.cells (putC x bv).toArray 39)) w.heap.size 39 (putC x bv) := heap_alloc_new w _
  have HP := Lib.hid (fun w => pick_any x.what 10 w hx.w0 hx.w1 (by omega) (by omega))
  have hk' : Value.int .i64 (x.what % 10) = .int .i64 3 := by rw [hk]
  have HK := Lib.hid hk'
  have c0 : (w.alloc (.cells (putC x bv).toArray 39)).cell? ⟨w.heap.size, 0, none⟩ = some (.int .i64 x.what) := hblk.cell 0
  have hlt := hr.lt
  have HNS := Lib.hid (show ¬ m.S w.heap.size from fun h => Nat.lt_irrefl _ (hlt _ h))
  have HB := Lib.hid (hblk.qt (Qt.refl _).drew)
  have HQ0 := Lib.hid (show Qt w (World.drew _) from hq0.drew)
  have hr0 := hr.qt HQ0.out
  have HC := Lib.hid (U64_g p m st _ hr0)
  obtain ⟨ba, bc, rfl⟩ : ∃ ba bc, bv = .slice ba x.b.length bc := by obtain ⟨ba, bc, h, _⟩ := hb _ _ (Qt.refl w) (Gs.refl _ w); exact ⟨ba, bc, h⟩
  clear hr hx hso hb hq0 hblk hk hk' hlt hr0
  go_enter Try.func25, Try.ntmps25
  go_wp2_with (go_at_call 26; refine (HP.out _).mono ?_; rintro e w1 ⟨rfl, rfl⟩; rw [HK.out])
  refine wp_region_held (S := (fun W => Blk W w.heap.size 39 (putC x (.slice ba x.b.length bc)))) (by kernel_rfl) ?_
  change wpAnyH _ _ _ _ _ _ _ _ (World.drew _)
  refine genH fun F0 hA => ?_
  have z0 : F0.tmps.size = 81 := by rw [hA]; rfl
  have e0_0 : F0.eval (.tmp 0) = p := by rw [hA]; rfl
  have e3_0 : F0.eval (.tmp 3) = .pointer (some ⟨w.heap.size, 0, none⟩) := by rw [hA]; rfl
  have HA := Lib.hid hA
  clear hA
  have HS := Lib.hid HB.out
  refine tkH (i := 0) (oi := _) (v := p) rfl (by kernel_rfl) (by kernel_rfl) (by kernel_rfl) (fun _ _ _ h => h) HS.out (wantedN rfl) (fun w _ => mv1 rfl e0_0 w) ?_
  intro F1 hF
  replace hF : F1 = F0.put (some 31) (p) := hF
  have z1 : F1.tmps.size = 81 := by rw [hF]; simpa [Act.put] using z0
  have e3_1 := (show F1.eval (.tmp 3) = F0.eval (.tmp 3) by rw [hF]; exact evO (by decide)).trans e3_0
  have e31_1 : F1.eval (.tmp 31) = p := by rw [hF]; exact evS (by rw [z0]; decide)
  have HF1 := Lib.hid hF
  clear hF e0_0 e3_0
  refine tkH (i := 2) (oi := _) (v := .pointer (some ⟨w.heap.size, 2, none⟩)) rfl (by kernel_rfl) (by kernel_rfl) (by kernel_rfl) (fun _ _ _ h => h) HS.out (wantedN rfl) (fun w _ => fa1 rfl e3_1 (by go_simp)) ?_
  intro F2 hF
  replace hF : F2 = F1.put (some 33) (.pointer (some ⟨w.heap.size, 2, none⟩)) := hF
  have z2 : F2.tmps.size = 81 := by rw [hF]; simpa [Act.put] using z1
  have e31_2 := (show F2.eval (.tmp 31) = F1.eval (.tmp 31) by rw [hF]; exact evO (by decide)).trans e31_1
  have e33_2 : F2.eval (.tmp 33) = .pointer (some ⟨w.heap.size, 2, none⟩) := by rw [hF]; exact evS (by rw [z1]; decide)
  have HF2 := Lib.hid hF
  clear hF e3_1 e31_1
  refine tkH (i := 3) (oi := _) (v := .int .u64 (x.u : Int)) rfl (by kernel_rfl) (by kernel_rfl) (by kernel_rfl) (fun _ _ _ h => h) HS.out (wantedN rfl) (fun w hs => ld1 rfl e33_2 (by have c := (Blk.cell hs 2).trans (rfl : _ = some (.int .u64 (x.u : Int) : Value)); go_simp)) ?_
  intro F3 hF
  replace hF : F3 = F2.put (some 34) (.int .u64 (x.u : Int)) := hF
  have z3 : F3.tmps.size = 81 := by rw [hF]; simpa [Act.put] using z2
  have e31_3 := (show F3.eval (.tmp 31) = F2.eval (.tmp 31) by rw [hF]; exact evO (by decide)).trans e31_2
  have e34_3 : F3.eval (.tmp 34) = .int .u64 (x.u : Int) := by rw [hF]; exact evS (by rw [z2]; decide)
  have HF3 := Lib.hid hF
  clear hF e31_2 e33_2
  refine clH (i := 1) (oi := _) rfl (by kernel_rfl) (wantedN rfl) 37 #[p] (clF rfl (by simp only [List.map_toArray, List.map_cons, List.map_nil, e31_3] <;> rfl) (fun args w => by kernel_rfl)) (.int .u64 (num 8 st : Nat)) (fun w' => RdX w' p m (askN x st 3) ∧ Gq m st (World.drew (w.alloc (.cells (putC x (.slice ba x.b.length bc)).toArray 39))) w') (HC.out.mono (by rintro e w' ⟨rfl, h, g⟩; exact ⟨rfl, h, g⟩)) ?_
  intro w2 F4 hF ⟨hr2, hg2⟩
  replace hF : F4 = F3.put (some 32) (.int .u64 (num 8 st : Nat)) := hF
  have hb2 := hg2.1.blk HB.out HNS.out
  have HR2 := Lib.hid hr2
  have HG2 := Lib.hid hg2
  have HB2 := Lib.hid hb2
  clear hr2 hg2 hb2
  refine ⟨HB2.out, ?_⟩
  have HS := Lib.hid (HB2.out)
  have z4 : F4.tmps.size = 81 := by rw [hF]; simpa [Act.put] using z3
  have e32_4 : F4.eval (.tmp 32) = .int .u64 (num 8 st : Nat) := by rw [hF]; exact evS (by rw [z3]; decide)
  have e34_4 := (show F4.eval (.tmp 34) = F3.eval (.tmp 34) by rw [hF]; exact evO (by decide)).trans e34_3
  have HF4 := Lib.hid hF
  clear hF e31_3 e34_3
  refine tkH (i := 4) (oi := _) (v := .bool (((num 8 st : Nat) : Int) == (x.u : Int))) rfl (by kernel_rfl) (by kernel_rfl) (by kernel_rfl) (fun _ _ _ h => h) HS.out (wantedN rfl) (fun w _ => bo1 rfl e32_4 e34_4 (by go_simp) (eqI _ _ w)) ?_
  intro F5 hF
  replace hF : F5 = F4.put (some 35) (.bool (((num 8 st : Nat) : Int) == (x.u : Int))) := hF
  have z5 : F5.tmps.size = 81 := by rw [hF]; simpa [Act.put] using z4
  have e35_5 : F5.eval (.tmp 35) = .bool (((num 8 st : Nat) : Int) == (x.u : Int)) := by rw [hF]; exact evS (by rw [z4]; decide)
  have HF5 := Lib.hid hF
  clear hF e32_4 e34_4
  refine tkH (i := 5) (oi := _) (v := .bool (((num 8 st : Nat) : Int) == (x.u : Int))) rfl (by kernel_rfl) (by kernel_rfl) (by kernel_rfl) (fun _ _ _ h => h) HS.out (wantedN rfl) (fun w _ => as1 rfl e35_5 w) ?_
  intro F6 hF
  replace hF : F6 = F5.put (some 4) (.bool (((num 8 st : Nat) : Int) == (x.u : Int))) := hF
  have z6 : F6.tmps.size = 81 := by rw [hF]; simpa [Act.put] using z5
  have e4_6 : F6.eval (.tmp 4) = .bool (((num 8 st : Nat) : Int) == (x.u : Int)) := by rw [hF]; exact evS (by rw [z5]; decide)
  have HF6 := Lib.hid hF
  clear hF e35_5
  refine wpAnyH_done (by kernel_rfl) ?_ _
  rw [HF6.out, HF5.out, HF4.out, HF3.out, HF2.out, HF1.out, HA.out]
  simp only [Act.put, List.setIfInBounds_toArray, List.set_cons_succ, List.set_cons_zero]
  clear HF6 HF5 HF4 HF3 HF2 HF1 HA z6 z5 z4 z3 z2 z1 z0 e4_6
  go_wp2
  go_ret
  exact ⟨_, rfl, fun h => by simp only [askT] at h; rw [h]; simp, HR2.out, gq_from HQ0.out HG2.out⟩
set_option maxRecDepth 100000 in
set_option maxHeartbeats 1000000 in
theorem ask_4 (p : Value) (m : RM) (x : PutD) (bv : Value) (st : Option (List Nat)) (w : World) (hr : RdX w p m st) (hso : StOk st) (hx : x.Ok) (hb : ∀ w1 w', Qt w w1 → Gs m.S w1 w' → Rd w' bv x.b.length (u8s x.b)) (hk : x.what % 10 = 4) :
    Calls Try.prog 25 #[p, .agg (putC x bv).toArray] w fun e w' => ∃ b, e = .returned (.bool b) ∧ (askT x st 4 → b = true) ∧ RdX w' p m (askN x st 4) ∧ Gq m st w w' := by
  have hq0 : Qt w (w.alloc (.cells (putC x bv).toArray 39)) := (Qt.refl w).alloc _
  have hblk : Blk (w.alloc (.cells (putC x bv).toArray 39)) w.heap.size 39 (putC x bv) := heap_alloc_new w _
  have HP := Lib.hid (fun w => pick_any x.what 10 w hx.w0 hx.w1 (by omega) (by omega))
  have hk' : Value.int .i64 (x.what % 10) = .int .i64 4 := by rw [hk]
  have HK := Lib.hid hk'
  have c0 : (w.alloc (.cells (putC x bv).toArray 39)).cell? ⟨w.heap.size, 0, none⟩ = some (.int .i64 x.what) := hblk.cell 0
  have hlt := hr.lt
  have HNS := Lib.hid (show ¬ m.S w.heap.size from fun h => Nat.lt_irrefl _ (hlt _ h))
  have HB := Lib.hid (hblk.qt (Qt.refl _).drew)
  have HQ0 := Lib.hid (show Qt w (World.drew _) from hq0.drew)
  have hr0 := hr.qt HQ0.out
  have HC := Lib.hid (I64_g p m st _ hr0)
  have W64 := Lib.hid (show IntKind.i64.wrap (x.u : Int) = wrap64 (x.u : Int) by unfold wrap64 IntKind.wrap; simp [IntKind.signed, IntKind.bits, IntKind.min] <;> omega)
  obtain ⟨ba, bc, rfl⟩ : ∃ ba bc, bv = .slice ba x.b.length bc := by obtain ⟨ba, bc, h, _⟩ := hb _ _ (Qt.refl w) (Gs.refl _ w); exact ⟨ba, bc, h⟩
  clear hr hx hso hb hq0 hblk hk hk' hlt hr0
  go_enter Try.func25, Try.ntmps25
  go_wp2_with (go_at_call 26; refine (HP.out _).mono ?_; rintro e w1 ⟨rfl, rfl⟩; rw [HK.out])
  refine wp_region_held (S := (fun W => Blk W w.heap.size 39 (putC x (.slice ba x.b.length bc)))) (by kernel_rfl) ?_
  change wpAnyH _ _ _ _ _ _ _ _ (World.drew _)
  refine genH fun F0 hA => ?_
  have z0 : F0.tmps.size = 81 := by rw [hA]; rfl
  have e0_0 : F0.eval (.tmp 0) = p := by rw [hA]; rfl
  have e3_0 : F0.eval (.tmp 3) = .pointer (some ⟨w.heap.size, 0, none⟩) := by rw [hA]; rfl
  have HA := Lib.hid hA
  clear hA
  have HS := Lib.hid HB.out
  refine tkH (i := 0) (oi := _) (v := p) rfl (by kernel_rfl) (by kernel_rfl) (by kernel_rfl) (fun _ _ _ h => h) HS.out (wantedN rfl) (fun w _ => mv1 rfl e0_0 w) ?_
  intro F1 hF
  replace hF : F1 = F0.put (some 38) (p) := hF
  have z1 : F1.tmps.size = 81 := by rw [hF]; simpa [Act.put] using z0
  have e3_1 := (show F1.eval (.tmp 3) = F0.eval (.tmp 3) by rw [hF]; exact evO (by decide)).trans e3_0
  have e38_1 : F1.eval (.tmp 38) = p := by rw [hF]; exact evS (by rw [z0]; decide)
  have HF1 := Lib.hid hF
  clear hF e0_0 e3_0
  refine tkH (i := 2) (oi := _) (v := .pointer (some ⟨w.heap.size, 2, none⟩)) rfl (by kernel_rfl) (by kernel_rfl) (by kernel_rfl) (fun _ _ _ h => h) HS.out (wantedN rfl) (fun w _ => fa1 rfl e3_1 (by go_simp)) ?_
  intro F2 hF
  replace hF : F2 = F1.put (some 40) (.pointer (some ⟨w.heap.size, 2, none⟩)) := hF
  have z2 : F2.tmps.size = 81 := by rw [hF]; simpa [Act.put] using z1
  have e38_2 := (show F2.eval (.tmp 38) = F1.eval (.tmp 38) by rw [hF]; exact evO (by decide)).trans e38_1
  have e40_2 : F2.eval (.tmp 40) = .pointer (some ⟨w.heap.size, 2, none⟩) := by rw [hF]; exact evS (by rw [z1]; decide)
  have HF2 := Lib.hid hF
  clear hF e3_1 e38_1
  refine tkH (i := 3) (oi := _) (v := .int .u64 (x.u : Int)) rfl (by kernel_rfl) (by kernel_rfl) (by kernel_rfl) (fun _ _ _ h => h) HS.out (wantedN rfl) (fun w hs => ld1 rfl e40_2 (by have c := (Blk.cell hs 2).trans (rfl : _ = some (.int .u64 (x.u : Int) : Value)); go_simp)) ?_
  intro F3 hF
  replace hF : F3 = F2.put (some 41) (.int .u64 (x.u : Int)) := hF
  have z3 : F3.tmps.size = 81 := by rw [hF]; simpa [Act.put] using z2
  have e38_3 := (show F3.eval (.tmp 38) = F2.eval (.tmp 38) by rw [hF]; exact evO (by decide)).trans e38_2
  have e41_3 : F3.eval (.tmp 41) = .int .u64 (x.u : Int) := by rw [hF]; exact evS (by rw [z2]; decide)
  have HF3 := Lib.hid hF
  clear hF e38_2 e40_2
  refine tkH (i := 4) (oi := _) (v := .int .i64 (wrap64 (x.u : Int))) rfl (by kernel_rfl) (by kernel_rfl) (by kernel_rfl) (fun _ _ _ h => h) HS.out (wantedN rfl) (fun w _ => cv1 rfl e41_3 (by go_simp; exact W64.out)) ?_
  intro F4 hF
  replace hF : F4 = F3.put (some 42) (.int .i64 (wrap64 (x.u : Int))) := hF
  have z4 : F4.tmps.size = 81 := by rw [hF]; simpa [Act.put] using z3
  have e38_4 := (show F4.eval (.tmp 38) = F3.eval (.tmp 38) by rw [hF]; exact evO (by decide)).trans e38_3
  have e42_4 : F4.eval (.tmp 42) = .int .i64 (wrap64 (x.u : Int)) := by rw [hF]; exact evS (by rw [z3]; decide)
  have HF4 := Lib.hid hF
  clear hF e38_3 e41_3
  refine clH (i := 1) (oi := _) rfl (by kernel_rfl) (wantedN rfl) 38 #[p] (clF rfl (by simp only [List.map_toArray, List.map_cons, List.map_nil, e38_4] <;> rfl) (fun args w => by kernel_rfl)) (.int .i64 (wrap64 (num 8 st : Nat))) (fun w' => RdX w' p m (askN x st 4) ∧ Gq m st (World.drew (w.alloc (.cells (putC x (.slice ba x.b.length bc)).toArray 39))) w') (HC.out.mono (by rintro e w' ⟨rfl, h, g⟩; exact ⟨rfl, h, g⟩)) ?_
  intro w2 F5 hF ⟨hr2, hg2⟩
  replace hF : F5 = F4.put (some 39) (.int .i64 (wrap64 (num 8 st : Nat))) := hF
  have hb2 := hg2.1.blk HB.out HNS.out
  have HR2 := Lib.hid hr2
  have HG2 := Lib.hid hg2
  have HB2 := Lib.hid hb2
  clear hr2 hg2 hb2
  refine ⟨HB2.out, ?_⟩
  have HS := Lib.hid (HB2.out)
  have z5 : F5.tmps.size = 81 := by rw [hF]; simpa [Act.put] using z4
  have e39_5 : F5.eval (.tmp 39) = .int .i64 (wrap64 (num 8 st : Nat)) := by rw [hF]; exact evS (by rw [z4]; decide)
  have e42_5 := (show F5.eval (.tmp 42) = F4.eval (.tmp 42) by rw [hF]; exact evO (by decide)).trans e42_4
  have HF5 := Lib.hid hF
  clear hF e38_4 e42_4
  refine tkH (i := 5) (oi := _) (v := .bool ((wrap64 (num 8 st : Nat)) == (wrap64 (x.u : Int)))) rfl (by kernel_rfl) (by kernel_rfl) (by kernel_rfl) (fun _ _ _ h => h) HS.out (wantedN rfl) (fun w _ => bo1 rfl e39_5 e42_5 (by go_simp) (eqI _ _ w)) ?_
  intro F6 hF
  replace hF : F6 = F5.put (some 43) (.bool ((wrap64 (num 8 st : Nat)) == (wrap64 (x.u : Int)))) := hF
  have z6 : F6.tmps.size = 81 := by rw [hF]; simpa [Act.put] using z5
  have e43_6 : F6.eval (.tmp 43) = .bool ((wrap64 (num 8 st : Nat)) == (wrap64 (x.u : Int))) := by rw [hF]; exact evS (by rw [z5]; decide)
  have HF6 := Lib.hid hF
  clear hF e39_5 e42_5
  refine tkH (i := 6) (oi := _) (v := .bool ((wrap64 (num 8 st : Nat)) == (wrap64 (x.u : Int)))) rfl (by kernel_rfl) (by kernel_rfl) (by kernel_rfl) (fun _ _ _ h => h) HS.out (wantedN rfl) (fun w _ => as1 rfl e43_6 w) ?_
  intro F7 hF
  replace hF : F7 = F6.put (some 4) (.bool ((wrap64 (num 8 st : Nat)) == (wrap64 (x.u : Int)))) := hF
  have z7 : F7.tmps.size = 81 := by rw [hF]; simpa [Act.put] using z6
  have e4_7 : F7.eval (.tmp 4) = .bool ((wrap64 (num 8 st : Nat)) == (wrap64 (x.u : Int))) := by rw [hF]; exact evS (by rw [z6]; decide)
  have HF7 := Lib.hid hF
  clear hF e43_6
  refine wpAnyH_done (by kernel_rfl) ?_ _
  rw [HF7.out, HF6.out, HF5.out, HF4.out, HF3.out, HF2.out, HF1.out, HA.out]
  simp only [Act.put, List.setIfInBounds_toArray, List.set_cons_succ, List.set_cons_zero]
  clear HF7 HF6 HF5 HF4 HF3 HF2 HF1 HA z7 z6 z5 z4 z3 z2 z1 z0 e4_7
  go_wp2
  go_ret
  exact ⟨_, rfl, fun h => by simp only [askT] at h; rw [h]; simp, HR2.out, gq_from HQ0.out HG2.out⟩
set_option maxRecDepth 100000 in
set_option maxHeartbeats 1000000 in
theorem ask_5 (p : Value) (m : RM) (x : PutD) (bv : Value) (st : Option (List Nat)) (w : World) (hr : RdX w p m st) (hso : StOk st) (hx : x.Ok) (hb : ∀ w1 w', Qt w w1 → Gs m.S w1 w' → Rd w' bv x.b.length (u8s x.b)) (hk : x.what % 10 = 5) :
    Calls Try.prog 25 #[p, .agg (putC x bv).toArray] w fun e w' => ∃ b, e = .returned (.bool b) ∧ (askT x st 5 → b = true) ∧ RdX w' p m (askN x st 5) ∧ Gq m st w w' := by
  have hq0 : Qt w (w.alloc (.cells (putC x bv).toArray 39)) := (Qt.refl w).alloc _
  have hblk : Blk (w.alloc (.cells (putC x bv).toArray 39)) w.heap.size 39 (putC x bv) := heap_alloc_new w _
  have HP := Lib.hid (fun w => pick_any x.what 10 w hx.w0 hx.w1 (by omega) (by omega))
  have hk' : Value.int .i64 (x.what % 10) = .int .i64 5 := by rw [hk]
  have HK := Lib.hid hk'
  have c0 : (w.alloc (.cells (putC x bv).toArray 39)).cell? ⟨w.heap.size, 0, none⟩ = some (.int .i64 x.what) := hblk.cell 0
  have hlt := hr.lt
  have HNS := Lib.hid (show ¬ m.S w.heap.size from fun h => Nat.lt_irrefl _ (hlt _ h))
  have HB := Lib.hid (hblk.qt (Qt.refl _).drew)
  have HQ0 := Lib.hid (show Qt w (World.drew _) from hq0.drew)
  have hr0 := hr.qt HQ0.out
  have HC := Lib.hid (Hash_g p m st _ hr0)
  have H32 := Lib.hid hx.h32
  obtain ⟨rb, heq⟩ := eqA (hshV st) x.h (hshV_len st) hx.h32 hso.hsh hx.h8
  have HEQ := Lib.hid heq
  clear heq
  obtain ⟨ba, bc, rfl⟩ : ∃ ba bc, bv = .slice ba x.b.length bc := by obtain ⟨ba, bc, h, _⟩ := hb _ _ (Qt.refl w) (Gs.refl _ w); exact ⟨ba, bc, h⟩
  clear hr hx hso hb hq0 hblk hk hk' hlt hr0
  go_enter Try.func25, Try.ntmps25
  go_wp2_with (go_at_call 26; refine (HP.out _).mono ?_; rintro e w1 ⟨rfl, rfl⟩; rw [HK.out])
  refine wp_region_held (S := (fun W => Blk W w.heap.size 39 (putC x (.slice ba x.b.length bc)))) (by kernel_rfl) ?_
  change wpAnyH _ _ _ _ _ _ _ _ (World.drew _)
  refine genH fun F0 hA => ?_
  have z0 : F0.tmps.size = 81 := by rw [hA]; rfl
  have e0_0 : F0.eval (.tmp 0) = p := by rw [hA]; rfl
  have e3_0 : F0.eval (.tmp 3) = .pointer (some ⟨w.heap.size, 0, none⟩) := by rw [hA]; rfl
  have HA := Lib.hid hA
  clear hA
  have HS := Lib.hid HB.out
  refine tkH (i := 0) (oi := _) (v := p) rfl (by kernel_rfl) (by kernel_rfl) (by kernel_rfl) (fun _ _ _ h => h) HS.out (wantedN rfl) (fun w _ => mv1 rfl e0_0 w) ?_
  intro F1 hF
  replace hF : F1 = F0.put (some 46) (p) := hF
  have z1 : F1.tmps.size = 81 := by rw [hF]; simpa [Act.put] using z0
  have e3_1 := (show F1.eval (.tmp 3) = F0.eval (.tmp 3) by rw [hF]; exact evO (by decide)).trans e3_0
  have e46_1 : F1.eval (.tmp 46) = p := by rw [hF]; exact evS (by rw [z0]; decide)
  have HF1 := Lib.hid hF
  clear hF e0_0 e3_0
  refine tkH (i := 2) (oi := _) (v := .pointer (some ⟨w.heap.size, 3, none⟩)) rfl (by kernel_rfl) (by kernel_rfl) (by kernel_rfl) (fun _ _ _ h => h) HS.out (wantedN rfl) (fun w _ => fa1 rfl e3_1 (by go_simp)) ?_
  intro F2 hF
  replace hF : F2 = F1.put (some 48) (.pointer (some ⟨w.heap.size, 3, none⟩)) := hF
  have z2 : F2.tmps.size = 81 := by rw [hF]; simpa [Act.put] using z1
  have e46_2 := (show F2.eval (.tmp 46) = F1.eval (.tmp 46) by rw [hF]; exact evO (by decide)).trans e46_1
  have e48_2 : F2.eval (.tmp 48) = .pointer (some ⟨w.heap.size, 3, none⟩) := by rw [hF]; exact evS (by rw [z1]; decide)
  have HF2 := Lib.hid hF
  clear hF e3_1 e46_1
  refine tkH (i := 3) (oi := _) (v := .agg (u8s x.h).toArray) rfl (by kernel_rfl) (by kernel_rfl) (by kernel_rfl) (fun _ _ _ h => h) HS.out (wantedN rfl) (fun w hs => ldRow rfl e48_2 (putC_h x _ _ _ _ hs) (d := .array 32 5) (by kernel_rfl) rfl (by rw [u8s_len, H32.out]; kernel_rfl)) ?_
  intro F3 hF
  replace hF : F3 = F2.put (some 49) (.agg (u8s x.h).toArray) := hF
  have z3 : F3.tmps.size = 81 := by rw [hF]; simpa [Act.put] using z2
  have e46_3 := (show F3.eval (.tmp 46) = F2.eval (.tmp 46) by rw [hF]; exact evO (by decide)).trans e46_2
  have e49_3 : F3.eval (.tmp 49) = .agg (u8s x.h).toArray := by rw [hF]; exact evS (by rw [z2]; decide)
  have HF3 := Lib.hid hF
  clear hF e46_2 e48_2
  refine clH (i := 1) (oi := _) rfl (by kernel_rfl) (wantedN rfl) 39 #[p] (clF rfl (by simp only [List.map_toArray, List.map_cons, List.map_nil, e46_3] <;> rfl) (fun args w => by kernel_rfl)) (.agg (u8s (hshV st)).toArray) (fun w' => RdX w' p m (askN x st 5) ∧ Gq m st (World.drew (w.alloc (.cells (putC x (.slice ba x.b.length bc)).toArray 39))) w') (HC.out.mono (by rintro e w' ⟨rfl, h, g⟩; exact ⟨rfl, h, g⟩)) ?_
  intro w2 F4 hF ⟨hr2, hg2⟩
  replace hF : F4 = F3.put (some 47) (.agg (u8s (hshV st)).toArray) := hF
  have hb2 := hg2.1.blk HB.out HNS.out
  have HR2 := Lib.hid hr2
  have HG2 := Lib.hid hg2
  have HB2 := Lib.hid hb2
  clear hr2 hg2 hb2
  refine ⟨HB2.out, ?_⟩
  have HS := Lib.hid (HB2.out)
  have z4 : F4.tmps.size = 81 := by rw [hF]; simpa [Act.put] using z3
  have e47_4 : F4.eval (.tmp 47) = .agg (u8s (hshV st)).toArray := by rw [hF]; exact evS (by rw [z3]; decide)
  have e49_4 := (show F4.eval (.tmp 49) = F3.eval (.tmp 49) by rw [hF]; exact evO (by decide)).trans e49_3
  have HF4 := Lib.hid hF
  clear hF e46_3 e49_3
  refine tkH (i := 4) (oi := _) (v := .bool rb) rfl (by kernel_rfl) (by kernel_rfl) (by kernel_rfl) (fun _ _ _ h => h) HS.out (wantedN rfl) (fun w _ => bo1 rfl e47_4 e49_4 (run_eqGuard_agg _ _ _ _ _ _ _ (by kernel_rfl)) (HEQ.out.2 w)) ?_
  intro F5 hF
  replace hF : F5 = F4.put (some 50) (.bool rb) := hF
  have z5 : F5.tmps.size = 81 := by rw [hF]; simpa [Act.put] using z4
  have e50_5 : F5.eval (.tmp 50) = .bool rb := by rw [hF]; exact evS (by rw [z4]; decide)
  have HF5 := Lib.hid hF
  clear hF e47_4 e49_4
  refine tkH (i := 5) (oi := _) (v := .bool rb) rfl (by kernel_rfl) (by kernel_rfl) (by kernel_rfl) (fun _ _ _ h => h) HS.out (wantedN rfl) (fun w _ => as1 rfl e50_5 w) ?_
  intro F6 hF
  replace hF : F6 = F5.put (some 4) (.bool rb) := hF
  have z6 : F6.tmps.size = 81 := by rw [hF]; simpa [Act.put] using z5
  have e4_6 : F6.eval (.tmp 4) = .bool rb := by rw [hF]; exact evS (by rw [z5]; decide)
  have HF6 := Lib.hid hF
  clear hF e50_5
  refine wpAnyH_done (by kernel_rfl) ?_ _
  rw [HF6.out, HF5.out, HF4.out, HF3.out, HF2.out, HF1.out, HA.out]
  simp only [Act.put, List.setIfInBounds_toArray, List.set_cons_succ, List.set_cons_zero]
  clear HF6 HF5 HF4 HF3 HF2 HF1 HA z6 z5 z4 z3 z2 z1 z0 e4_6
  go_wp2
  go_ret
  exact ⟨_, rfl, fun h => HEQ.out.1 h, HR2.out, gq_from HQ0.out HG2.out⟩
set_option maxRecDepth 100000 in
set_option maxHeartbeats 1000000 in
theorem ask_6 (p : Value) (m : RM) (x : PutD) (bv : Value) (st : Option (List Nat)) (w : World) (hr : RdX w p m st) (hso : StOk st) (hx : x.Ok) (hb : ∀ w1 w', Qt w w1 → Gs m.S w1 w' → Rd w' bv x.b.length (u8s x.b)) (hk : x.what % 10 = 6) :
    Calls Try.prog 25 #[p, .agg (putC x bv).toArray] w fun e w' => ∃ b, e = .returned (.bool b) ∧ (askT x st 6 → b = true) ∧ RdX w' p m (askN x st 6) ∧ Gq m st w w' := by
  have hq0 : Qt w (w.alloc (.cells (putC x bv).toArray 39)) := (Qt.refl w).alloc _
  have hblk : Blk (w.alloc (.cells (putC x bv).toArray 39)) w.heap.size 39 (putC x bv) := heap_alloc_new w _
  have HP := Lib.hid (fun w => pick_any x.what 10 w hx.w0 hx.w1 (by omega) (by omega))
  have hk' : Value.int .i64 (x.what % 10) = .int .i64 6 := by rw [hk]
  have HK := Lib.hid hk'
  have c0 : (w.alloc (.cells (putC x bv).toArray 39)).cell? ⟨w.heap.size, 0, none⟩ = some (.int .i64 x.what) := hblk.cell 0
  have hlt := hr.lt
  have HNS := Lib.hid (show ¬ m.S w.heap.size from fun h => Nat.lt_irrefl _ (hlt _ h))
  have HB := Lib.hid (hblk.qt (Qt.refl _).drew)
  have HQ0 := Lib.hid (show Qt w (World.drew _) from hq0.drew)
  have hr0 := hr.qt HQ0.out
  have HC := Lib.hid (Raw_g p m (x.b.length : Int) st _ (hr.qt HQ0.out))
  have H32 := Lib.hid hx.h32
  obtain ⟨ba, bc, rfl⟩ : ∃ ba bc, bv = .slice ba x.b.length bc := by obtain ⟨ba, bc, h, _⟩ := hb _ _ (Qt.refl w) (Gs.refl _ w); exact ⟨ba, bc, h⟩
  have HBF := Lib.hid hb
  obtain ⟨T, hT⟩ : ∃ T, T = str x.b := ⟨_, rfl⟩
  obtain ⟨U, hU⟩ : ∃ U, U = str (rawB (x.b.length : Int) st) := ⟨_, rfl⟩
  have HT := Lib.hid hT
  have HU := Lib.hid hU
  clear hT hU
  clear hr hx hso hb hq0 hblk hk hk' hlt hr0
  go_enter Try.func25, Try.ntmps25
  go_wp2_with (go_at_call 26; refine (HP.out _).mono ?_; rintro e w1 ⟨rfl, rfl⟩; rw [HK.out])
  refine wp_region_held (S := (fun W => Blk W w.heap.size 39 (putC x (.slice ba x.b.length bc)) ∧ Rd W (.slice ba x.b.length bc) x.b.length (u8s x.b))) (by kernel_rfl) ?_
  change wpAnyH _ _ _ _ _ _ _ _ (World.drew _)
  refine genH fun F0 hA => ?_
  have z0 : F0.tmps.size = 81 := by rw [hA]; rfl
  have e0_0 : F0.eval (.tmp 0) = p := by rw [hA]; rfl
  have e3_0 : F0.eval (.tmp 3) = .pointer (some ⟨w.heap.size, 0, none⟩) := by rw [hA]; rfl
  have HA := Lib.hid hA
  clear hA
  have HS := Lib.hid (show Blk _ w.heap.size 39 (putC x (.slice ba x.b.length bc)) ∧ Rd _ (.slice ba x.b.length bc) x.b.length (u8s x.b) from ⟨HB.out, HBF.out _ _ HQ0.out (Gs.refl _ _)⟩)
  refine tkH (i := 0) (oi := _) (v := p) rfl (by kernel_rfl) (by kernel_rfl) (by kernel_rfl) (fun _ _ _ h => h) HS.out (wantedN rfl) (fun w _ => mv1 rfl e0_0 w) ?_
  intro F1 hF
  replace hF : F1 = F0.put (some 53) (p) := hF
  have z1 : F1.tmps.size = 81 := by rw [hF]; simpa [Act.put] using z0
  have e3_1 := (show F1.eval (.tmp 3) = F0.eval (.tmp 3) by rw [hF]; exact evO (by decide)).trans e3_0
  have e53_1 : F1.eval (.tmp 53) = p := by rw [hF]; exact evS (by rw [z0]; decide)
  have HF1 := Lib.hid hF
  clear hF e0_0 e3_0
  refine tkH (i := 1) (oi := _) (v := .pointer (some ⟨w.heap.size, 35, none⟩)) rfl (by kernel_rfl) (by kernel_rfl) (by kernel_rfl) (fun _ _ _ h => h) HS.out (wantedN rfl) (fun w _ => fa1 rfl e3_1 (by go_simp)) ?_
  intro F2 hF
  replace hF : F2 = F1.put (some 54) (.pointer (some ⟨w.heap.size, 35, none⟩)) := hF
  have z2 : F2.tmps.size = 81 := by rw [hF]; simpa [Act.put] using z1
  have e3_2 := (show F2.eval (.tmp 3) = F1.eval (.tmp 3) by rw [hF]; exact evO (by decide)).trans e3_1
  have e53_2 := (show F2.eval (.tmp 53) = F1.eval (.tmp 53) by rw [hF]; exact evO (by decide)).trans e53_1
  have e54_2 : F2.eval (.tmp 54) = .pointer (some ⟨w.heap.size, 35, none⟩) := by rw [hF]; exact evS (by rw [z1]; decide)
  have HF2 := Lib.hid hF
  clear hF e3_1 e53_1
  refine tkH (i := 2) (oi := _) (v := .slice ba x.b.length bc) rfl (by kernel_rfl) (by kernel_rfl) (by kernel_rfl) (fun _ _ _ h => h) HS.out (wantedN rfl) (fun w hs => ld1 rfl e54_2 (by have c := (Blk.cell hs.1 35).trans (putC_35 x (.slice ba x.b.length bc) H32.out); go_simp)) ?_
  intro F3 hF
  replace hF : F3 = F2.put (some 55) (.slice ba x.b.length bc) := hF
  have z3 : F3.tmps.size = 81 := by rw [hF]; simpa [Act.put] using z2
  have e3_3 := (show F3.eval (.tmp 3) = F2.eval (.tmp 3) by rw [hF]; exact evO (by decide)).trans e3_2
  have e53_3 := (show F3.eval (.tmp 53) = F2.eval (.tmp 53) by rw [hF]; exact evO (by decide)).trans e53_2
  have e55_3 : F3.eval (.tmp 55) = .slice ba x.b.length bc := by rw [hF]; exact evS (by rw [z2]; decide)
  have HF3 := Lib.hid hF
  clear hF e3_2 e53_2 e54_2
  refine tkH (i := 3) (oi := _) (v := .int .i64 (x.b.length : Int)) rfl (by kernel_rfl) (by kernel_rfl) (by kernel_rfl) (fun _ _ _ h => h) HS.out (wantedN rfl) (fun w _ => lnS (e := 5) rfl e55_3 (by kernel_rfl) w) ?_
  intro F4 hF
  replace hF : F4 = F3.put (some 56) (.int .i64 (x.b.length : Int)) := hF
  have z4 : F4.tmps.size = 81 := by rw [hF]; simpa [Act.put] using z3
  have e3_4 := (show F4.eval (.tmp 3) = F3.eval (.tmp 3) by rw [hF]; exact evO (by decide)).trans e3_3
  have e53_4 := (show F4.eval (.tmp 53) = F3.eval (.tmp 53) by rw [hF]; exact evO (by decide)).trans e53_3
  have e56_4 : F4.eval (.tmp 56) = .int .i64 (x.b.length : Int) := by rw [hF]; exact evS (by rw [z3]; decide)
  have HF4 := Lib.hid hF
  clear hF e3_3 e53_3 e55_3
  refine tkH (i := 6) (oi := _) (v := .pointer (some ⟨w.heap.size, 35, none⟩)) rfl (by kernel_rfl) (by kernel_rfl) (by kernel_rfl) (fun _ _ _ h => h) HS.out (wantedN rfl) (fun w _ => fa1 rfl e3_4 (by go_simp)) ?_
  intro F5 hF
  replace hF : F5 = F4.put (some 59) (.pointer (some ⟨w.heap.size, 35, none⟩)) := hF
  have z5 : F5.tmps.size = 81 := by rw [hF]; simpa [Act.put] using z4
  have e53_5 := (show F5.eval (.tmp 53) = F4.eval (.tmp 53) by rw [hF]; exact evO (by decide)).trans e53_4
  have e56_5 := (show F5.eval (.tmp 56) = F4.eval (.tmp 56) by rw [hF]; exact evO (by decide)).trans e56_4
  have e59_5 : F5.eval (.tmp 59) = .pointer (some ⟨w.heap.size, 35, none⟩) := by rw [hF]; exact evS (by rw [z4]; decide)
  have HF5 := Lib.hid hF
  clear hF e3_4 e53_4 e56_4
  refine tkH (i := 7) (oi := _) (v := .slice ba x.b.length bc) rfl (by kernel_rfl) (by kernel_rfl) (by kernel_rfl) (fun _ _ _ h => h) HS.out (wantedN rfl) (fun w hs => ld1 rfl e59_5 (by have c := (Blk.cell hs.1 35).trans (putC_35 x (.slice ba x.b.length bc) H32.out); go_simp)) ?_
  intro F6 hF
  replace hF : F6 = F5.put (some 60) (.slice ba x.b.length bc) := hF
  have z6 : F6.tmps.size = 81 := by rw [hF]; simpa [Act.put] using z5
  have e53_6 := (show F6.eval (.tmp 53) = F5.eval (.tmp 53) by rw [hF]; exact evO (by decide)).trans e53_5
  have e56_6 := (show F6.eval (.tmp 56) = F5.eval (.tmp 56) by rw [hF]; exact evO (by decide)).trans e56_5
  have e60_6 : F6.eval (.tmp 60) = .slice ba x.b.length bc := by rw [hF]; exact evS (by rw [z5]; decide)
  have HF6 := Lib.hid hF
  clear hF e53_5 e56_5 e59_5
  refine tkH (i := 8) (oi := _) (v := .string T) rfl (by kernel_rfl) (by kernel_rfl) (by kernel_rfl) (fun _ _ _ h => h) HS.out (wantedN rfl) (fun w hs => cv1 rfl e60_6 (by rw [HT.out]; exact (conv_str (P := Try.prog) 22 5 (by kernel_rfl) (by kernel_rfl) hs.2 rfl 9 (by kernel_rfl)))) ?_
  intro F7 hF
  replace hF : F7 = F6.put (some 61) (.string T) := hF
  have z7 : F7.tmps.size = 81 := by rw [hF]; simpa [Act.put] using z6
  have e53_7 := (show F7.eval (.tmp 53) = F6.eval (.tmp 53) by rw [hF]; exact evO (by decide)).trans e53_6
  have e56_7 := (show F7.eval (.tmp 56) = F6.eval (.tmp 56) by rw [hF]; exact evO (by decide)).trans e56_6
  have e61_7 : F7.eval (.tmp 61) = .string T := by rw [hF]; exact evS (by rw [z6]; decide)
  have HF7 := Lib.hid hF
  clear hF e53_6 e56_6 e60_6
  refine clHE (i := 4) (oi := _) rfl (by kernel_rfl) (wantedN rfl) 23 #[p, .int .i64 (x.b.length : Int)] (clF rfl (by simp only [List.map_toArray, List.map_cons, List.map_nil, e53_7, e56_7] <;> rfl) (fun args w => by kernel_rfl)) (fun r w' => OQ w' (World.drew (w.alloc (.cells (putC x (.slice ba x.b.length bc)).toArray 39))).heap.size 1 r (rawB (x.b.length : Int) st).length (u8s (rawB (x.b.length : Int) st)) ∧ RdX w' p m (askN x st 6) ∧ Gq m st (World.drew (w.alloc (.cells (putC x (.slice ba x.b.length bc)).toArray 39))) w') (HC.out.mono (by rintro e w' ⟨r, rfl, ho, h, g⟩; exact ⟨r, rfl, ho, h, g⟩)) ?_
  intro r w2 F8 hF ⟨ho2, hr2, hg2⟩
  replace hF : F8 = F7.put (some 57) (r) := hF
  have hb2 := hg2.1.blk HB.out HNS.out
  have HR2 := Lib.hid hr2
  have HG2 := Lib.hid hg2
  have HB2 := Lib.hid hb2
  have hrb := HBF.out _ _ HQ0.out HG2.out.1
  have HRB := Lib.hid hrb
  have HO2 := Lib.hid ho2
  clear hr2 hg2 hb2 ho2
  refine ⟨(show Blk w2 w.heap.size 39 (putC x (.slice ba x.b.length bc)) ∧ Rd w2 (.slice ba x.b.length bc) x.b.length (u8s x.b) from ⟨HB2.out, HRB.out⟩), ?_⟩
  have HS := Lib.hid ((show Blk w2 w.heap.size 39 (putC x (.slice ba x.b.length bc)) ∧ Rd w2 (.slice ba x.b.length bc) x.b.length (u8s x.b) from ⟨HB2.out, HRB.out⟩))
  refine wpAnyH_str (S' := (fun W => (Blk W w.heap.size 39 (putC x (.slice ba x.b.length bc)) ∧ Rd W (.slice ba x.b.length bc) x.b.length (u8s x.b)) ∧ Rd W r (rawB (x.b.length : Int) st).length (u8s (rawB (x.b.length : Int) st)))) (fun w h => h.1) _ _ _ _ ?_
  have HS := Lib.hid ((show (Blk w2 w.heap.size 39 (putC x (.slice ba x.b.length bc)) ∧ Rd w2 (.slice ba x.b.length bc) x.b.length (u8s x.b)) ∧ Rd w2 r (rawB (x.b.length : Int) st).length (u8s (rawB (x.b.length : Int) st)) from ⟨⟨HB2.out, HRB.out⟩, Rd.of_OQ HO2.out⟩))
  have z8 : F8.tmps.size = 81 := by rw [hF]; simpa [Act.put] using z7
  have e57_8 : F8.eval (.tmp 57) = r := by rw [hF]; exact evS (by rw [z7]; decide)
  have e61_8 := (show F8.eval (.tmp 61) = F7.eval (.tmp 61) by rw [hF]; exact evO (by decide)).trans e61_7
  have HF8 := Lib.hid hF
  clear hF e53_7 e56_7 e61_7
  refine tkH (i := 5) (oi := _) (v := .string U) rfl (by kernel_rfl) (by kernel_rfl) (by kernel_rfl) (fun _ _ _ h => h) HS.out (wantedN rfl) (fun w hs => cv1 rfl e57_8 (by rw [HU.out]; exact (conv_str (P := Try.prog) 22 5 (by kernel_rfl) (by kernel_rfl) hs.2 rfl 9 (by kernel_rfl)))) ?_
  intro F9 hF
  replace hF : F9 = F8.put (some 58) (.string U) := hF
  have z9 : F9.tmps.size = 81 := by rw [hF]; simpa [Act.put] using z8
  have e58_9 : F9.eval (.tmp 58) = .string U := by rw [hF]; exact evS (by rw [z8]; decide)
  have e61_9 := (show F9.eval (.tmp 61) = F8.eval (.tmp 61) by rw [hF]; exact evO (by decide)).trans e61_8
  have HF9 := Lib.hid hF
  clear hF e57_8 e61_8
  refine tkH (i := 9) (oi := _) (v := .bool (U.toList == T.toList)) rfl (by kernel_rfl) (by kernel_rfl) (by kernel_rfl) (fun _ _ _ h => h) HS.out (wantedN rfl) (fun w _ => bo1 rfl e58_9 e61_9 (by go_simp) (eqS _ _ w)) ?_
  intro F10 hF
  replace hF : F10 = F9.put (some 62) (.bool (U.toList == T.toList)) := hF
  have z10 : F10.tmps.size = 81 := by rw [hF]; simpa [Act.put] using z9
  have e62_10 : F10.eval (.tmp 62) = .bool (U.toList == T.toList) := by rw [hF]; exact evS (by rw [z9]; decide)
  have HF10 := Lib.hid hF
  clear hF e58_9 e61_9
  refine tkH (i := 10) (oi := _) (v := .bool (U.toList == T.toList)) rfl (by kernel_rfl) (by kernel_rfl) (by kernel_rfl) (fun _ _ _ h => h) HS.out (wantedN rfl) (fun w _ => as1 rfl e62_10 w) ?_
  intro F11 hF
  replace hF : F11 = F10.put (some 4) (.bool (U.toList == T.toList)) := hF
  have z11 : F11.tmps.size = 81 := by rw [hF]; simpa [Act.put] using z10
  have e4_11 : F11.eval (.tmp 4) = .bool (U.toList == T.toList) := by rw [hF]; exact evS (by rw [z10]; decide)
  have HF11 := Lib.hid hF
  clear hF e62_10
  refine wpAnyH_done (by kernel_rfl) ?_ _
  rw [HF11.out, HF10.out, HF9.out, HF8.out, HF7.out, HF6.out, HF5.out, HF4.out, HF3.out, HF2.out, HF1.out, HA.out]
  simp only [Act.put, List.setIfInBounds_toArray, List.set_cons_succ, List.set_cons_zero]
  clear HF11 HF10 HF9 HF8 HF7 HF6 HF5 HF4 HF3 HF2 HF1 HA z11 z10 z9 z8 z7 z6 z5 z4 z3 z2 z1 z0 e4_11
  go_wp2
  go_ret
  exact ⟨_, rfl, fun h => by simp only [askT] at h; rw [HT.out, HU.out, h]; simp, HR2.out, gq_from HQ0.out HG2.out⟩
set_option maxRecDepth 100000 in
set_option maxHeartbeats 1000000 in
theorem ask_7 (p : Value) (m : RM) (x : PutD) (bv : Value) (st : Option (List Nat)) (w : World) (hr : RdX w p m st) (hso : StOk st) (hx : x.Ok) (hb : ∀ w1 w', Qt w w1 → Gs m.S w1 w' → Rd w' bv x.b.length (u8s x.b)) (hk : x.what % 10 = 7) :
    Calls Try.prog 25 #[p, .agg (putC x bv).toArray] w fun e w' => ∃ b, e = .returned (.bool b) ∧ (askT x st 7 → b = true) ∧ RdX w' p m (askN x st 7) ∧ Gq m st w w' := by
  have hq0 : Qt w (w.alloc (.cells (putC x bv).toArray 39)) := (Qt.refl w).alloc _
  have hblk : Blk (w.alloc (.cells (putC x bv).toArray 39)) w.heap.size 39 (putC x bv) := heap_alloc_new w _
  have HP := Lib.hid (fun w => pick_any x.what 10 w hx.w0 hx.w1 (by omega) (by omega))
  have hk' : Value.int .i64 (x.what % 10) = .int .i64 7 := by rw [hk]
  have HK := Lib.hid hk'
  have c0 : (w.alloc (.cells (putC x bv).toArray 39)).cell? ⟨w.heap.size, 0, none⟩ = some (.int .i64 x.what) := hblk.cell 0
  have hlt := hr.lt
  have HNS := Lib.hid (show ¬ m.S w.heap.size from fun h => Nat.lt_irrefl _ (hlt _ h))
  have HB := Lib.hid (hblk.qt (Qt.refl _).drew)
  have HQ0 := Lib.hid (show Qt w (World.drew _) from hq0.drew)
  have hr0 := hr.qt HQ0.out
  have H32 := Lib.hid hx.h32
  obtain ⟨T, hT⟩ : ∃ T, T = str x.s := ⟨_, rfl⟩
  obtain ⟨U, hU⟩ : ∃ U, U = textV (x.s.length : Int) st := ⟨_, rfl⟩
  have hc := Text_g p m (x.s.length : Int) st _ (hr.qt HQ0.out)
  have hsz : T.size = x.s.length := by rw [hT]; exact str_size _
  rw [← hU, ← hsz] at hc
  have hc1 : textN ((T.size : Nat) : Int) st = askN x st 7 := by rw [hsz]; rfl
  rw [hc1] at hc
  have HC := Lib.hid hc
  have HT := Lib.hid hT
  have HU := Lib.hid hU
  clear hT hU hc hc1 hsz
  obtain ⟨ba, bc, rfl⟩ : ∃ ba bc, bv = .slice ba x.b.length bc := by obtain ⟨ba, bc, h, _⟩ := hb _ _ (Qt.refl w) (Gs.refl _ w); exact ⟨ba, bc, h⟩
  clear hr hx hso hb hq0 hblk hk hk' hlt hr0
  go_enter Try.func25, Try.ntmps25
  go_wp2_with (go_at_call 26; refine (HP.out _).mono ?_; rintro e w1 ⟨rfl, rfl⟩; rw [HK.out])
  refine wp_region_held (S := (fun W => Blk W w.heap.size 39 (putC x (.slice ba x.b.length bc)))) (by kernel_rfl) ?_
  change wpAnyH _ _ _ _ _ _ _ _ (World.drew _)
  refine genH fun F0 hA => ?_
  have z0 : F0.tmps.size = 81 := by rw [hA]; rfl
  have e0_0 : F0.eval (.tmp 0) = p := by rw [hA]; rfl
  have e3_0 : F0.eval (.tmp 3) = .pointer (some ⟨w.heap.size, 0, none⟩) := by rw [hA]; rfl
  have HA := Lib.hid hA
  clear hA
  have HS := Lib.hid HB.out
  refine tkH (i := 0) (oi := _) (v := p) rfl (by kernel_rfl) (by kernel_rfl) (by kernel_rfl) (fun _ _ _ h => h) HS.out (wantedN rfl) (fun w _ => mv1 rfl e0_0 w) ?_
  intro F1 hF
  replace hF : F1 = F0.put (some 65) (p) := hF
  have z1 : F1.tmps.size = 81 := by rw [hF]; simpa [Act.put] using z0
  have e3_1 := (show F1.eval (.tmp 3) = F0.eval (.tmp 3) by rw [hF]; exact evO (by decide)).trans e3_0
  have e65_1 : F1.eval (.tmp 65) = p := by rw [hF]; exact evS (by rw [z0]; decide)
  have HF1 := Lib.hid hF
  clear hF e0_0 e3_0
  refine tkH (i := 1) (oi := _) (v := .pointer (some ⟨w.heap.size, 36, none⟩)) rfl (by kernel_rfl) (by kernel_rfl) (by kernel_rfl) (fun _ _ _ h => h) HS.out (wantedN rfl) (fun w _ => fa1 rfl e3_1 (by go_simp)) ?_
  intro F2 hF
  replace hF : F2 = F1.put (some 66) (.pointer (some ⟨w.heap.size, 36, none⟩)) := hF
  have z2 : F2.tmps.size = 81 := by rw [hF]; simpa [Act.put] using z1
  have e3_2 := (show F2.eval (.tmp 3) = F1.eval (.tmp 3) by rw [hF]; exact evO (by decide)).trans e3_1
  have e65_2 := (show F2.eval (.tmp 65) = F1.eval (.tmp 65) by rw [hF]; exact evO (by decide)).trans e65_1
  have e66_2 : F2.eval (.tmp 66) = .pointer (some ⟨w.heap.size, 36, none⟩) := by rw [hF]; exact evS (by rw [z1]; decide)
  have HF2 := Lib.hid hF
  clear hF e3_1 e65_1
  refine tkH (i := 2) (oi := _) (v := .string T) rfl (by kernel_rfl) (by kernel_rfl) (by kernel_rfl) (fun _ _ _ h => h) HS.out (wantedN rfl) (fun w hs => ld1 rfl e66_2 (by have c := (Blk.cell hs 36).trans (putC_36 x _ H32.out); rw [← HT.out] at c; go_simp)) ?_
  intro F3 hF
  replace hF : F3 = F2.put (some 67) (.string T) := hF
  have z3 : F3.tmps.size = 81 := by rw [hF]; simpa [Act.put] using z2
  have e3_3 := (show F3.eval (.tmp 3) = F2.eval (.tmp 3) by rw [hF]; exact evO (by decide)).trans e3_2
  have e65_3 := (show F3.eval (.tmp 65) = F2.eval (.tmp 65) by rw [hF]; exact evO (by decide)).trans e65_2
  have e67_3 : F3.eval (.tmp 67) = .string T := by rw [hF]; exact evS (by rw [z2]; decide)
  have HF3 := Lib.hid hF
  clear hF e3_2 e65_2 e66_2
  refine tkH (i := 3) (oi := _) (v := .int .i64 (T.size : Int)) rfl (by kernel_rfl) (by kernel_rfl) (by kernel_rfl) (fun _ _ _ h => h) HS.out (wantedN rfl) (fun w _ => lnT rfl e67_3 (by kernel_rfl) w) ?_
  intro F4 hF
  replace hF : F4 = F3.put (some 68) (.int .i64 (T.size : Int)) := hF
  have z4 : F4.tmps.size = 81 := by rw [hF]; simpa [Act.put] using z3
  have e3_4 := (show F4.eval (.tmp 3) = F3.eval (.tmp 3) by rw [hF]; exact evO (by decide)).trans e3_3
  have e65_4 := (show F4.eval (.tmp 65) = F3.eval (.tmp 65) by rw [hF]; exact evO (by decide)).trans e65_3
  have e68_4 : F4.eval (.tmp 68) = .int .i64 (T.size : Int) := by rw [hF]; exact evS (by rw [z3]; decide)
  have HF4 := Lib.hid hF
  clear hF e3_3 e65_3 e67_3
  refine tkH (i := 5) (oi := _) (v := .pointer (some ⟨w.heap.size, 36, none⟩)) rfl (by kernel_rfl) (by kernel_rfl) (by kernel_rfl) (fun _ _ _ h => h) HS.out (wantedN rfl) (fun w _ => fa1 rfl e3_4 (by go_simp)) ?_
  intro F5 hF
  replace hF : F5 = F4.put (some 70) (.pointer (some ⟨w.heap.size, 36, none⟩)) := hF
  have z5 : F5.tmps.size = 81 := by rw [hF]; simpa [Act.put] using z4
  have e65_5 := (show F5.eval (.tmp 65) = F4.eval (.tmp 65) by rw [hF]; exact evO (by decide)).trans e65_4
  have e68_5 := (show F5.eval (.tmp 68) = F4.eval (.tmp 68) by rw [hF]; exact evO (by decide)).trans e68_4
  have e70_5 : F5.eval (.tmp 70) = .pointer (some ⟨w.heap.size, 36, none⟩) := by rw [hF]; exact evS (by rw [z4]; decide)
  have HF5 := Lib.hid hF
  clear hF e3_4 e65_4 e68_4
  refine tkH (i := 6) (oi := _) (v := .string T) rfl (by kernel_rfl) (by kernel_rfl) (by kernel_rfl) (fun _ _ _ h => h) HS.out (wantedN rfl) (fun w hs => ld1 rfl e70_5 (by have c := (Blk.cell hs 36).trans (putC_36 x _ H32.out); rw [← HT.out] at c; go_simp)) ?_
  intro F6 hF
  replace hF : F6 = F5.put (some 71) (.string T) := hF
  have z6 : F6.tmps.size = 81 := by rw [hF]; simpa [Act.put] using z5
  have e65_6 := (show F6.eval (.tmp 65) = F5.eval (.tmp 65) by rw [hF]; exact evO (by decide)).trans e65_5
  have e68_6 := (show F6.eval (.tmp 68) = F5.eval (.tmp 68) by rw [hF]; exact evO (by decide)).trans e68_5
  have e71_6 : F6.eval (.tmp 71) = .string T := by rw [hF]; exact evS (by rw [z5]; decide)
  have HF6 := Lib.hid hF
  clear hF e65_5 e68_5 e70_5
  refine clH (i := 4) (oi := _) rfl (by kernel_rfl) (wantedN rfl) 32 #[p, .int .i64 (T.size : Int)] (clF rfl (by simp only [List.map_toArray, List.map_cons, List.map_nil, e65_6, e68_6] <;> rfl) (fun args w => by kernel_rfl)) (.string U) (fun w' => RdX w' p m (askN x st 7) ∧ Gq m st (World.drew (w.alloc (.cells (putC x (.slice ba x.b.length bc)).toArray 39))) w') (HC.out.mono (by rintro e w' ⟨rfl, h, g⟩; exact ⟨rfl, h, g⟩)) ?_
  intro w2 F7 hF ⟨hr2, hg2⟩
  replace hF : F7 = F6.put (some 69) (.string U) := hF
  have hb2 := hg2.1.blk HB.out HNS.out
  have HR2 := Lib.hid hr2
  have HG2 := Lib.hid hg2
  have HB2 := Lib.hid hb2
  clear hr2 hg2 hb2
  refine ⟨HB2.out, ?_⟩
  have HS := Lib.hid (HB2.out)
  have z7 : F7.tmps.size = 81 := by rw [hF]; simpa [Act.put] using z6
  have e69_7 : F7.eval (.tmp 69) = .string U := by rw [hF]; exact evS (by rw [z6]; decide)
  have e71_7 := (show F7.eval (.tmp 71) = F6.eval (.tmp 71) by rw [hF]; exact evO (by decide)).trans e71_6
  have HF7 := Lib.hid hF
  clear hF e65_6 e68_6 e71_6
  refine tkH (i := 7) (oi := _) (v := .bool (U.toList == T.toList)) rfl (by kernel_rfl) (by kernel_rfl) (by kernel_rfl) (fun _ _ _ h => h) HS.out (wantedN rfl) (fun w _ => bo1 rfl e69_7 e71_7 (by go_simp) (eqS _ _ w)) ?_
  intro F8 hF
  replace hF : F8 = F7.put (some 72) (.bool (U.toList == T.toList)) := hF
  have z8 : F8.tmps.size = 81 := by rw [hF]; simpa [Act.put] using z7
  have e72_8 : F8.eval (.tmp 72) = .bool (U.toList == T.toList) := by rw [hF]; exact evS (by rw [z7]; decide)
  have HF8 := Lib.hid hF
  clear hF e69_7 e71_7
  refine tkH (i := 8) (oi := _) (v := .bool (U.toList == T.toList)) rfl (by kernel_rfl) (by kernel_rfl) (by kernel_rfl) (fun _ _ _ h => h) HS.out (wantedN rfl) (fun w _ => as1 rfl e72_8 w) ?_
  intro F9 hF
  replace hF : F9 = F8.put (some 4) (.bool (U.toList == T.toList)) := hF
  have z9 : F9.tmps.size = 81 := by rw [hF]; simpa [Act.put] using z8
  have e4_9 : F9.eval (.tmp 4) = .bool (U.toList == T.toList) := by rw [hF]; exact evS (by rw [z8]; decide)
  have HF9 := Lib.hid hF
  clear hF e72_8
  refine wpAnyH_done (by kernel_rfl) ?_ _
  rw [HF9.out, HF8.out, HF7.out, HF6.out, HF5.out, HF4.out, HF3.out, HF2.out, HF1.out, HA.out]
  simp only [Act.put, List.setIfInBounds_toArray, List.set_cons_succ, List.set_cons_zero]
  clear HF9 HF8 HF7 HF6 HF5 HF4 HF3 HF2 HF1 HA z9 z8 z7 z6 z5 z4 z3 z2 z1 z0 e4_9
  go_wp2
  go_ret
  exact ⟨_, rfl, fun h => by simp only [askT] at h; rw [HT.out, HU.out, textV, h]; simp, HR2.out, gq_from HQ0.out HG2.out⟩
set_option maxRecDepth 100000 in
set_option maxHeartbeats 1000000 in
theorem ask_8 (p : Value) (m : RM) (x : PutD) (bv : Value) (st : Option (List Nat)) (w : World) (hr : RdX w p m st) (hso : StOk st) (hx : x.Ok) (hb : ∀ w1 w', Qt w w1 → Gs m.S w1 w' → Rd w' bv x.b.length (u8s x.b)) (hk : x.what % 10 = 8) :
    Calls Try.prog 25 #[p, .agg (putC x bv).toArray] w fun e w' => ∃ b, e = .returned (.bool b) ∧ (askT x st 8 → b = true) ∧ RdX w' p m (askN x st 8) ∧ Gq m st w w' := by
  have hq0 : Qt w (w.alloc (.cells (putC x bv).toArray 39)) := (Qt.refl w).alloc _
  have hblk : Blk (w.alloc (.cells (putC x bv).toArray 39)) w.heap.size 39 (putC x bv) := heap_alloc_new w _
  have HP := Lib.hid (fun w => pick_any x.what 10 w hx.w0 hx.w1 (by omega) (by omega))
  have hk' : Value.int .i64 (x.what % 10) = .int .i64 8 := by rw [hk]
  have HK := Lib.hid hk'
  have c0 : (w.alloc (.cells (putC x bv).toArray 39)).cell? ⟨w.heap.size, 0, none⟩ = some (.int .i64 x.what) := hblk.cell 0
  have hlt := hr.lt
  have HNS := Lib.hid (show ¬ m.S w.heap.size from fun h => Nat.lt_irrefl _ (hlt _ h))
  have HB := Lib.hid (hblk.qt (Qt.refl _).drew)
  have HQ0 := Lib.hid (show Qt w (World.drew _) from hq0.drew)
  have hr0 := hr.qt HQ0.out
  have HC := Lib.hid (Flag_g p m st _ hr0)
  obtain ⟨ba, bc, rfl⟩ : ∃ ba bc, bv = .slice ba x.b.length bc := by obtain ⟨ba, bc, h, _⟩ := hb _ _ (Qt.refl w) (Gs.refl _ w); exact ⟨ba, bc, h⟩
  clear hr hx hso hb hq0 hblk hk hk' hlt hr0
  go_enter Try.func25, Try.ntmps25
  go_wp2_with (go_at_call 26; refine (HP.out _).mono ?_; rintro e w1 ⟨rfl, rfl⟩; rw [HK.out])
  refine wp_region_held (S := (fun W => Blk W w.heap.size 39 (putC x (.slice ba x.b.length bc)))) (by kernel_rfl) ?_
  change wpAnyH _ _ _ _ _ _ _ _ (World.drew _)
  refine genH fun F0 hA => ?_
  have z0 : F0.tmps.size = 81 := by rw [hA]; rfl
  have e0_0 : F0.eval (.tmp 0) = p := by rw [hA]; rfl
  have e3_0 : F0.eval (.tmp 3) = .pointer (some ⟨w.heap.size, 0, none⟩) := by rw [hA]; rfl
  have HA := Lib.hid hA
  clear hA
  have HS := Lib.hid HB.out
  refine tkH (i := 0) (oi := _) (v := p) rfl (by kernel_rfl) (by kernel_rfl) (by kernel_rfl) (fun _ _ _ h => h) HS.out (wantedN rfl) (fun w _ => mv1 rfl e0_0 w) ?_
  intro F1 hF
  replace hF : F1 = F0.put (some 75) (p) := hF
  have z1 : F1.tmps.size = 81 := by rw [hF]; simpa [Act.put] using z0
  have e3_1 := (show F1.eval (.tmp 3) = F0.eval (.tmp 3) by rw [hF]; exact evO (by decide)).trans e3_0
  have e75_1 : F1.eval (.tmp 75) = p := by rw [hF]; exact evS (by rw [z0]; decide)
  have HF1 := Lib.hid hF
  clear hF e0_0 e3_0
  refine tkH (i := 2) (oi := _) (v := .pointer (some ⟨w.heap.size, 1, none⟩)) rfl (by kernel_rfl) (by kernel_rfl) (by kernel_rfl) (fun _ _ _ h => h) HS.out (wantedN rfl) (fun w _ => fa1 rfl e3_1 (by go_simp)) ?_
  intro F2 hF
  replace hF : F2 = F1.put (some 77) (.pointer (some ⟨w.heap.size, 1, none⟩)) := hF
  have z2 : F2.tmps.size = 81 := by rw [hF]; simpa [Act.put] using z1
  have e75_2 := (show F2.eval (.tmp 75) = F1.eval (.tmp 75) by rw [hF]; exact evO (by decide)).trans e75_1
  have e77_2 : F2.eval (.tmp 77) = .pointer (some ⟨w.heap.size, 1, none⟩) := by rw [hF]; exact evS (by rw [z1]; decide)
  have HF2 := Lib.hid hF
  clear hF e3_1 e75_1
  refine tkH (i := 3) (oi := _) (v := .int .i64 x.n) rfl (by kernel_rfl) (by kernel_rfl) (by kernel_rfl) (fun _ _ _ h => h) HS.out (wantedN rfl) (fun w hs => ld1 rfl e77_2 (by have c := (Blk.cell hs 1).trans (rfl : _ = some (.int .i64 x.n : Value)); go_simp)) ?_
  intro F3 hF
  replace hF : F3 = F2.put (some 78) (.int .i64 x.n) := hF
  have z3 : F3.tmps.size = 81 := by rw [hF]; simpa [Act.put] using z2
  have e75_3 := (show F3.eval (.tmp 75) = F2.eval (.tmp 75) by rw [hF]; exact evO (by decide)).trans e75_2
  have e78_3 : F3.eval (.tmp 78) = .int .i64 x.n := by rw [hF]; exact evS (by rw [z2]; decide)
  have HF3 := Lib.hid hF
  clear hF e75_2 e77_2
  refine tkH (i := 4) (oi := _) (v := .bool (x.n == 1)) rfl (by kernel_rfl) (by kernel_rfl) (by kernel_rfl) (fun _ _ _ h => h) HS.out (wantedN rfl) (fun w _ => bo1 rfl e78_3 rfl (by go_simp) (eqI _ _ w)) ?_
  intro F4 hF
  replace hF : F4 = F3.put (some 79) (.bool (x.n == 1)) := hF
  have z4 : F4.tmps.size = 81 := by rw [hF]; simpa [Act.put] using z3
  have e75_4 := (show F4.eval (.tmp 75) = F3.eval (.tmp 75) by rw [hF]; exact evO (by decide)).trans e75_3
  have e79_4 : F4.eval (.tmp 79) = .bool (x.n == 1) := by rw [hF]; exact evS (by rw [z3]; decide)
  have HF4 := Lib.hid hF
  clear hF e75_3 e78_3
  refine clH (i := 1) (oi := _) rfl (by kernel_rfl) (wantedN rfl) 33 #[p] (clF rfl (by simp only [List.map_toArray, List.map_cons, List.map_nil, e75_4] <;> rfl) (fun args w => by kernel_rfl)) (.bool (flagV st)) (fun w' => RdX w' p m (askN x st 8) ∧ Gq m st (World.drew (w.alloc (.cells (putC x (.slice ba x.b.length bc)).toArray 39))) w') (HC.out.mono (by rintro e w' ⟨rfl, h, g⟩; exact ⟨rfl, h, g⟩)) ?_
  intro w2 F5 hF ⟨hr2, hg2⟩
  replace hF : F5 = F4.put (some 76) (.bool (flagV st)) := hF
  have hb2 := hg2.1.blk HB.out HNS.out
  have HR2 := Lib.hid hr2
  have HG2 := Lib.hid hg2
  have HB2 := Lib.hid hb2
  clear hr2 hg2 hb2
  refine ⟨HB2.out, ?_⟩
  have HS := Lib.hid (HB2.out)
  have z5 : F5.tmps.size = 81 := by rw [hF]; simpa [Act.put] using z4
  have e76_5 : F5.eval (.tmp 76) = .bool (flagV st) := by rw [hF]; exact evS (by rw [z4]; decide)
  have e79_5 := (show F5.eval (.tmp 79) = F4.eval (.tmp 79) by rw [hF]; exact evO (by decide)).trans e79_4
  have HF5 := Lib.hid hF
  clear hF e75_4 e79_4
  refine tkH (i := 5) (oi := _) (v := .bool (flagV st == (x.n == 1))) rfl (by kernel_rfl) (by kernel_rfl) (by kernel_rfl) (fun _ _ _ h => h) HS.out (wantedN rfl) (fun w _ => bo1 rfl e76_5 e79_5 (by go_simp) (eqB (by kernel_rfl) _ _ w)) ?_
  intro F6 hF
  replace hF : F6 = F5.put (some 80) (.bool (flagV st == (x.n == 1))) := hF
  have z6 : F6.tmps.size = 81 := by rw [hF]; simpa [Act.put] using z5
  have e80_6 : F6.eval (.tmp 80) = .bool (flagV st == (x.n == 1)) := by rw [hF]; exact evS (by rw [z5]; decide)
  have HF6 := Lib.hid hF
  clear hF e76_5 e79_5
  refine tkH (i := 6) (oi := _) (v := .bool (flagV st == (x.n == 1))) rfl (by kernel_rfl) (by kernel_rfl) (by kernel_rfl) (fun _ _ _ h => h) HS.out (wantedN rfl) (fun w _ => as1 rfl e80_6 w) ?_
  intro F7 hF
  replace hF : F7 = F6.put (some 4) (.bool (flagV st == (x.n == 1))) := hF
  have z7 : F7.tmps.size = 81 := by rw [hF]; simpa [Act.put] using z6
  have e4_7 : F7.eval (.tmp 4) = .bool (flagV st == (x.n == 1)) := by rw [hF]; exact evS (by rw [z6]; decide)
  have HF7 := Lib.hid hF
  clear hF e80_6
  refine wpAnyH_done (by kernel_rfl) ?_ _
  rw [HF7.out, HF6.out, HF5.out, HF4.out, HF3.out, HF2.out, HF1.out, HA.out]
  simp only [Act.put, List.setIfInBounds_toArray, List.set_cons_succ, List.set_cons_zero]
  clear HF7 HF6 HF5 HF4 HF3 HF2 HF1 HA z7 z6 z5 z4 z3 z2 z1 z0 e4_7
  go_wp2
  go_ret
  exact ⟨_, rfl, fun h => by simp only [askT] at h; rw [h]; simp, HR2.out, gq_from HQ0.out HG2.out⟩
set_option maxRecDepth 100000 in
set_option maxHeartbeats 1000000 in
theorem ask_9 (p : Value) (m : RM) (x : PutD) (bv : Value) (st : Option (List Nat)) (w : World) (hr : RdX w p m st) (hso : StOk st) (hx : x.Ok) (hb : ∀ w1 w', Qt w w1 → Gs m.S w1 w' → Rd w' bv x.b.length (u8s x.b)) (hk : x.what % 10 = 9) :
    Calls Try.prog 25 #[p, .agg (putC x bv).toArray] w fun e w' => ∃ b, e = .returned (.bool b) ∧ (askT x st 9 → b = true) ∧ RdX w' p m (askN x st 9) ∧ Gq m st w w' := by
  have hq0 : Qt w (w.alloc (.cells (putC x bv).toArray 39)) := (Qt.refl w).alloc _
  have hblk : Blk (w.alloc (.cells (putC x bv).toArray 39)) w.heap.size 39 (putC x bv) := heap_alloc_new w _
  have HP := Lib.hid (fun w => pick_any x.what 10 w hx.w0 hx.w1 (by omega) (by omega))
  have hk' : Value.int .i64 (x.what % 10) = .int .i64 9 := by rw [hk]
  have HK := Lib.hid hk'
  have c0 : (w.alloc (.cells (putC x bv).toArray 39)).cell? ⟨w.heap.size, 0, none⟩ = some (.int .i64 x.what) := hblk.cell 0
  have hlt := hr.lt
  have HNS := Lib.hid (show ¬ m.S w.heap.size from fun h => Nat.lt_irrefl _ (hlt _ h))
  have HB := Lib.hid (hblk.qt (Qt.refl _).drew)
  have HQ0 := Lib.hid (show Qt w (World.drew _) from hq0.drew)
  have hr0 := hr.qt HQ0.out
  have HR0 := Lib.hid (hr.qt hq0)
  have HQ1 := Lib.hid hq0
  obtain ⟨ba, bc, rfl⟩ : ∃ ba bc, bv = .slice ba x.b.length bc := by obtain ⟨ba, bc, h, _⟩ := hb _ _ (Qt.refl w) (Gs.refl _ w); exact ⟨ba, bc, h⟩
  clear hr hx hso hb hq0 hblk hk hk' hlt hr0
  go_enter Try.func25, Try.ntmps25
  go_wp2_with (go_at_call 26; refine (HP.out _).mono ?_; rintro e w1 ⟨rfl, rfl⟩; rw [HK.out])
  go_ret
  exact ⟨_, rfl, fun _ => rfl, HR0.out, Gq.of_qt HQ1.out⟩
theorem ask_any (p : Value) (m : RM) (x : PutD) (bv : Value) (st : Option (List Nat)) (w : World) (hr : RdX w p m st) (hso : StOk st) (hx : x.Ok) (hb : ∀ w1 w', Qt w w1 → Gs m.S w1 w' → Rd w' bv x.b.length (u8s x.b)) :
    Calls Try.prog 25 #[p, .agg (putC x bv).toArray] w fun e w' => ∃ b, e = .returned (.bool b) ∧ (askT x st (pk x) → b = true) ∧ RdX w' p m (askN x st (pk x)) ∧ Gq m st w w' := by
  have h10 := pk_lt x
  obtain ⟨k, hk⟩ : ∃ k, pk x = k := ⟨_, rfl⟩
  rw [hk] at h10 ⊢
  have hi := pk_int x k hk
  match k, h10, hi with
  | 0, _, hi => exact ask_0 p m x bv st w hr hso hx hb hi
  | 1, _, hi => exact ask_1 p m x bv st w hr hso hx hb hi
  | 2, _, hi => exact ask_2 p m x bv st w hr hso hx hb hi
  | 3, _, hi => exact ask_3 p m x bv st w hr hso hx hb hi
  | 4, _, hi => exact ask_4 p m x bv st w hr hso hx hb hi
  | 5, _, hi => exact ask_5 p m x bv st w hr hso hx hb hi
  | 6, _, hi => exact ask_6 p m x bv st w hr hso hx hb hi
  | 7, _, hi => exact ask_7 p m x bv st w hr hso hx hb hi
  | 8, _, hi => exact ask_8 p m x bv st w hr hso hx hb hi
  | 9, _, hi => exact ask_9 p m x bv st w hr hso hx hb hi
end Go.Proofs.Ytajkmblcphdnbaa
