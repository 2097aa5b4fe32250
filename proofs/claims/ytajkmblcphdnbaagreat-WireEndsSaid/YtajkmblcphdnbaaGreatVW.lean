import Derived.Test.YtajkmblcphdnbaaGreatVU
import Derived.Test.YtajkmblcphdnbaaGreatVT
/-! WireWrites: words. -/
namespace Go.Proofs.YtajkmblcphdnbaaGreat
open Go.RowKit
set_option linter.unusedVariables false
set_option linter.unusedSimpArgs false

/-- A writer of the program's and one of the reference's, that have put the same. -/
structure WW (W w : World) (a xa : Nat) (Sp Sx : Nat → Prop) (st : Option (List Nat)) : Prop where
  hp : WrX Sp w (.pointer (some ⟨a, 0, none⟩)) (.live a) st
  hx : WfA Sx w xa st
  dj : ∀ k, Sp k → ¬Sx k
  gp : ∀ k, Sp k → W.heap.size ≤ k
  gx : ∀ k, Sx k → W.heap.size ≤ k
  q : Qt W w
theorem WW.qt {W w w' : World} {a xa : Nat} {Sp Sx : Nat → Prop} {st : Option (List Nat)} (h : WW W w a xa Sp Sx st) (q : Qt w w') : WW W w' a xa Sp Sx st :=
  ⟨h.hp.qt q, h.hx.qt q, h.dj, h.gp, h.gx, h.q.trans q⟩
/-- Another block is turned. -/
theorem WW.gs {W w w' : World} {a xa : Nat} {Sp Sx R : Nat → Prop} {st : Option (List Nat)} (h : WW W w a xa Sp Sx st) (g : Gs R w w') (h1 : ∀ k, R k → ¬Sp k) (h2 : ∀ k, R k → ¬Sx k) (h3 : ∀ k, R k → W.heap.size ≤ k) : WW W w' a xa Sp Sx st :=
  ⟨h.hp.gs g (fun k hk hr => h1 k hr hk), h.hx.gs g (fun k hk hr => h2 k hr hk), h.dj, h.gp, h.gx, Gs.below h.q g h3⟩
theorem WW.lt {W w : World} {a xa : Nat} {Sp Sx : Nat → Prop} {st : Option (List Nat)} (h : WW W w a xa Sp Sx st) : (∀ k, Sp k → k < w.heap.size) ∧ ∀ k, Sx k → k < w.heap.size := ⟨h.hp.lt, h.hx.lt⟩
theorem WW.both {W w w1 w2 : World} {a xa : Nat} {Sp Sx : Nat → Prop} {st st' : Option (List Nat)} (h : WW W w a xa Sp Sx st) (h1 : WrX (Fr Sp w w1) w1 (.pointer (some ⟨a, 0, none⟩)) (.live a) st') (g1 : Gs Sp w w1) (h2 : WfA (Fr Sx w1 w2) w2 xa st') (g2 : Gs Sx w1 w2) :
    WW W w2 a xa (Fr Sp w w1) (Fr Sx w1 w2) st' := by
  have z1 := g1.size
  have hq1 : Qt W w1 := Gs.below h.q g1 h.gp
  have hd : ∀ k, Fr Sp w w1 k → ¬Sx k := by
    rintro k (hk | ⟨hk, _⟩) hs
    · exact h.dj k hk hs
    · have := h.lt.2 k hs; omega
  refine ⟨h1.gs g2 hd, h2, ?_, ?_, ?_, Gs.below hq1 g2 h.gx⟩
  · rintro k hk (hs | ⟨hs, _⟩)
    · exact hd k hk hs
    · have := h1.lt k hk; omega
  · rintro k (hk | ⟨hk, _⟩)
    · exact h.gp k hk
    · exact Nat.le_trans h.q.size hk
  · rintro k (hk | ⟨hk, _⟩)
    · exact h.gx k hk
    · exact Nat.le_trans hq1.size hk
theorem WW.mid {W w w1 : World} {a xa : Nat} {Sp Sx : Nat → Prop} {st : Option (List Nat)} (h : WW W w a xa Sp Sx st) (g1 : Gs Sp w w1) : WfA Sx w1 xa st := h.hx.gs g1 (fun k hk hs => h.dj k hs hk)
theorem lenO_map (st : Option (List Nat)) (b : List Nat) : lenO (st.map (· ++ b)) ≤ lenO st + b.length := by
  cases st with
  | none => exact Nat.zero_le _
  | some l => simp [lenO]
theorem putK_len (x : PutD) (hx : x.Ok) (st : Option (List Nat)) (k : Nat) : lenO (putK x st k) ≤ lenO st + 40 + x.b.length + x.s.length := by
  unfold putK
  split
  · have := lenO_wBel 1 x.n st; omega
  · have := lenO_wBel 2 x.n st; omega
  · have := lenO_wBel 4 x.n st; omega
  · have := lenO_map st (beB 8 x.u); rw [beB_len] at this; omega
  · have := lenO_map st (beB 8 x.u); rw [beB_len] at this; omega
  · have := lenO_map st x.h; rw [hx.h32] at this; omega
  · have := lenO_map st x.b; omega
  · have h1 := lenO_map (wBel 2 (x.s.length : Int) st) x.s
    have h2 := lenO_wBel 2 (x.s.length : Int) st
    omega
  · have := lenO_wBel 1 (if (x.n == 1) = true then 1 else 0) st; omega
  · split
    · exact Nat.zero_le _
    · omega
theorem putC_set (x : PutD) (bv bv2 : Value) (h : x.h.length = 32) : (putC x bv).set 35 bv2 = putC x bv2 := by
  unfold putC
  rw [List.set_append_right _ _ (by simp), List.set_append_right _ _ (by simp [u8s_len, h])]
  simp [u8s_len, h]
theorem putC_one (x : PutD) (a : Option Addr) (n c : Nat) : (putC x (.slice a n c)).toArray.all (·.oneCell') = true := by
  rw [List.all_toArray, List.all_eq_true]
  intro v hv
  unfold putC at hv
  rcases List.mem_append.1 hv with hv | hv
  · simp at hv; rcases hv with rfl | rfl | rfl <;> rfl
  · rcases List.mem_append.1 hv with hv | hv
    · exact u8s_one1 _ v hv
    · simp at hv; rcases hv with rfl | rfl <;> rfl
theorem putC_size (x : PutD) (bv : Value) (h : x.h.length = 32) : ((Tryz.prog).info? 28).map (·.size) = some (putC x bv).toArray.size := by
  rw [List.size_toArray, putC_len x bv h]; kernel_rfl
/-- A call of nothing: what a variable holds first. -/
def putZ : List Value := putC ⟨0, 0, 0, Z32, [], []⟩ (.slice none 0 0)
theorem newX_any (w : World) : WfA (fun k => k = w.heap.size) (w.alloc (.cells #[.slice none 0 0, .bool false] 38)) w.heap.size (some []) :=
  ⟨_, heap_alloc_new w _, ⟨OQ.nil _ _ _, rfl, (fun g hg => by cases hg), (fun k hk => by subst hk; simp), (fun x hx => by cases hx)⟩⟩
end Go.Proofs.YtajkmblcphdnbaaGreat
namespace Go.Proofs.YtajkmblcphdnbaaGreat
open Go.RowKit
set_option linter.unusedVariables false
set_option linter.unusedSimpArgs false

theorem wpList_store_rowL {P : Program} {ops : Array Oper} {rest : List Oper} {o : Oper} {a : Act} {w : World} {Q : Exit → Act → World → Prop} (hgd : o.guard = none) (ty : TypeId) (x y : Operand) (ho : o.op = .store ty x y)
    (g : Nat) (cells : List Value) (hx : a.eval x = .pointer (some ⟨g, 0, none⟩)) (hy : a.eval y = .agg cells.toArray)
    (t : TypeId) (old : List Value) (hg : Blk w g t old) (hi : (P.info? ty).map (·.size) = some cells.toArray.size)
    (hold : old.length = cells.length) (h1 : cells.toArray.all (·.oneCell') = true)
    (h : ∀ w', Og g w w' → Blk w' g t cells → wpList P ops Q rest (a.put o.dst undef) w') : wpList P ops Q (o :: rest) a w :=
  wpList_store_row hgd ty x y ho g cells.toArray hx hy t _ hg hi (by simpa using hold) h1 (h _ (og_setRow (Og.refl g w) (.inl rfl) _) (blk_setRow hg cells))
theorem OQ.gs {S : Nat → Prop} {w w' : World} {base : Nat} {v : Value} {n : Nat} {xs : List Value} (h : OQ w base 1 v n xs) (q : Gs S w w') (hd : ∀ k, base ≤ k → ¬S k) : OQ w' base 1 v n xs :=
  h.keep q.size fun g hg => q.block g (h.lt g hg).2 (hd g (h.lt g hg).1)
theorem og_fresh {T : Nat} {w w1 w2 : World} (q : Qt w w1) (h : Og T w1 w2) (hT : w.heap.size ≤ T) : Qt w w2 := Og.below q h hT
theorem le_sum {l : List Nat} {n : Nat} (h : n ∈ l) : n ≤ l.sum := by
  induction l with
  | nil => cases h
  | cons a r ih =>
    rw [List.sum_cons]
    rcases List.mem_cons.1 h with rfl | h
    · omega
    · have := ih h; omega
set_option maxRecDepth 1000000 in
set_option maxHeartbeats 4000000 in
theorem wireWrites_any (pv : Value) (l : List (PutD × Value)) (W : World) (hp : Puts W pv l) :
    Calls Tryz.prog 4 #[pv] W fun e w' => e = .returned (.bool true) ∧ Qt W w' := by
  have HP := Lib.hid hp
  have HG := Lib.hid (great_any pv l none 0 0 W hp (by decide))
  obtain ⟨pa, c, rfl, hpc, hpm, _⟩ := hp
  have hpm1 := hpm.1
  have hpm2 := hpm.2
  clear hpm
  rw [Nat.add_zero] at HG
  cases hg : greatL l l.length with
  | true =>
    rw [hg] at HG
    clear hg
    go_enter Tryz.func4, Tryz.ntmps4
    go_wp2_with (first
      | (go_at_call 7; refine HG.out.mono ?_; rintro e w1 ⟨rfl, rfl⟩)
      | (go_at_call 6; refine (awake_any _).mono ?_; rintro e w1 ⟨rfl, q⟩))
    go_ret
    exact ⟨rfl, q⟩
  | false =>
    rw [hg] at HG
    obtain ⟨hn, _⟩ := greatL_no hg
    have hb300 : ∀ x ∈ l, x.1.b.length ≤ 300 := fun x hx => by
      have : x.1.b.length ≤ (l.map fun x => x.1.b.length).sum := le_sum (List.mem_map.2 ⟨x, hx, rfl⟩)
      omega
    have hl300 : l.length ≤ 300 := by omega
    have HB300 := Lib.hid hb300
    clear hg hn hb300
    obtain ⟨i0, hi0, hz0, hz1, hz2⟩ := info_parts (P := Tryz.prog) (e := 5) (z := .int .u8 0) (size := 1) (bytes := 1) (by kernel_rfl)
    have HI0 := Lib.hid hi0
    have HZ0 := Lib.hid hz0
    have HZ1 := Lib.hid hz1
    have HZ2 := Lib.hid hz2
    clear hi0 hz0 hz1 hz2
    obtain ⟨fs, hfs⟩ : ∃ fs, Tryz.prog.underlying 28 = some (.struct fs) := und_struct (by kernel_rfl)
    have HFS := Lib.hid hfs
    have HWB := Lib.hid (show Tryz.prog.built 38 [] = some #[.slice none 0 0, .bool false] by kernel_rfl)
    clear hfs
    go_enter Tryz.func4, Tryz.ntmps4
    go_wp2_with (first
      | (go_at_call 7; refine HG.out.mono ?_; rintro e w1 ⟨rfl, rfl⟩)
      | (go_at_call 8; refine (newWriter_any _).mono ?_; rintro e w1 ⟨rfl, hw, hq, hz⟩; (have HW1 := Lib.hid hw); (have HQ1 := Lib.hid hq); (have HZZ := Lib.hid hz); clear hw hq hz)
      | (refine wpList_build rfl _ rfl (by rw [show _ = some _ from HWB.out]; rfl) ?_))
    obtain ⟨a, ha⟩ : ∃ a, a = W.heap.size := ⟨_, rfl⟩
    obtain ⟨xa, hxa⟩ : ∃ xa, xa = w1.heap.size := ⟨_, rfl⟩
    have hww : WW W (w1.alloc (.cells #[.slice none 0 0, .bool false] 38)) a xa (fun k => k = W.heap.size) (fun k => k = w1.heap.size) (some []) := by
      have hq2 : Qt w1 (w1.alloc (.cells #[.slice none 0 0, .bool false] 38)) := (Qt.refl w1).alloc _
      refine ⟨⟨rfl, by rw [ha]; exact HW1.out.qt hq2⟩, by rw [hxa]; exact newX_any w1, fun k e1 e2 => ?_, fun k e => by rw [e]; exact Nat.le_refl _, fun k e => by rw [e]; exact HQ1.out.size, HQ1.out.trans hq2⟩
      have := HZZ.out
      omega
    have HWW := Lib.hid hww
    rw [← ha, ← hxa]
    clear hww ha hxa HW1 HQ1 HZZ
    go_loopw [5] (fun i wr => ∃ (k : Nat) (st : Option (List Nat)) (Sp Sx : Nat → Prop), k ≤ l.length ∧ i = .int .i64 k ∧ lenO st ≤ k * 80000 ∧ WW W wr a xa Sp Sx st) (fun i _ => l.length - (intOf i).toNat)
    case atStart => exact ⟨0, some [], _, _, by omega, rfl, by simp [lenO], HWW.out⟩
    case round =>
      obtain ⟨k, st, Sp, Sx, hk, rfl, hlen, hww⟩ := hrel
      have HW := Lib.hid hww
      clear hww HWW
      by_cases hlt : k < l.length
      · obtain ⟨xx, hxx⟩ : ∃ xx, l[k]? = some xx := ⟨_, List.getElem?_eq_getElem hlt⟩
        obtain ⟨b, off, rfl, hrg, hok, hrd⟩ := HP.out.at hxx
        have hb3 := HB300.out _ (List.mem_of_getElem? hxx)
        obtain ⟨x, bv⟩ := xx
        dsimp only at hrg hok hrd hb3
        obtain ⟨ba, bc, rfl, hbc, hbx⟩ := hrd
        have hrd : Rd W (.slice ba x.b.length bc) x.b.length (u8s x.b) := ⟨ba, bc, rfl, hbc, hbx⟩
        have hQW := HW.out.q
        have c36 : wr.cell? ⟨b, off + k * 37 + 36, none⟩ = some (.string (str x.s)) := rangeAt_qt hrg hQW 36 _ (putC_36 _ _ hok.h32)
        have hsz : (str x.s).size = x.s.length := str_size _
        have HRD := Lib.hid hrd
        have HRG := Lib.hid hrg
        have HOK := Lib.hid hok
        have hsl := hok.sl
        have i1 : (k : Int) < (l.length : Int) := by omega
        have i2 : (0 : Int) ≤ (k : Int) := by omega
        have HLT := Lib.hid HW.out.lt
        have HSZ := Lib.hid hQW.size
        clear hrg hok hrd hxx hbx hQW
        by_cases h7 : 70000 < x.s.length
        · generalize hS : str x.s = S at *
          have hs7 : decide ((70000 : Int) < (S.size : Int)) = true := by simp; omega
          have hs8 : S.size ≤ 140737488351232 := by omega
          have HH := Lib.hid hS
          clear hS hsz h7 hsl
          go_wp2_with (go_at_call 6; refine (awake_any _).mono ?_; rintro e w1 ⟨rfl, q⟩)
          go_ret
          exact ⟨rfl, HW.out.q.trans q⟩
        · generalize hS : str x.s = S at *
          have hs7 : decide ((70000 : Int) < (S.size : Int)) = false := by simp; omega
          have hs8 : S.size ≤ 140737488351232 := by omega
          have HS := Lib.hid hS
          have HSL := Lib.hid (show x.s.length ≤ 70000 by omega)
          have HZP := Lib.hid (show Blk (wr.alloc (.cells putZ.toArray 28)) wr.heap.size 28 putZ from heap_alloc_new wr _)
          clear hS hsz h7 hsl
          go_wp2_with (first
            | (go_at_call 9; refine HPUT.out.mono ?_; rintro e w5 ⟨rfl, hw5, hg5⟩; (have HW5 := Lib.hid hw5); (have HG5 := Lib.hid hg5); (have HQ5 := Lib.hid (Gs.below HW4.out.q hg5 HW4.out.gp)); (have HWT := Lib.hid (wanted_any Sx xa x (.slice ba x.b.length bc) st w5 (HW4.out.mid hg5) HOK.out (HRD.out.below (Gs.below HW4.out.q hg5 HW4.out.gp)) (by have := HSL.out; omega))); clear hw5 hg5)
            | (go_at_call 10; refine HWT.out.mono ?_; rintro e w6 ⟨rfl, hw6, hg6⟩; (have HW6 := Lib.hid (HW4.out.both HW5.out HG5.out hw6 hg6)); (have HG6 := Lib.hid hg6); clear hw6 hg6)
            | (have _t := HT1; refine wpList_store_rowL rfl 28 (.tmp 6) (.tmp 38) rfl wr.heap.size (putC x (.slice ba x.b.length bc)) rfl rfl 28 putZ HZP.out (putC_size x _ HOK.out.h32) (by rw [putC_len x _ HOK.out.h32]; rfl) (putC_one x _ _ _) ?_; intro w2 hg2 hb2; clear HT1; (have hq2 : Qt wr w2 := og_fresh ((Qt.refl wr).alloc _) hg2 (Nat.le_refl _)); (have HB2 := Lib.hid hb2); (have HQ2 := Lib.hid hq2); (have c35 : ∀ o, (w2.alloc o).cell? ⟨b, off + k * 37 + 35, none⟩ = some (.slice ba x.b.length bc) := fun o => rangeAt_qt HRG.out ((HW.out.q.trans hq2).alloc o) 35 _ (putC_35 _ _ HOK.out.h32)); clear hg2 hb2 hq2)
            | (refine wpList_load_mid rfl 28 (.tmp 37) rfl b (off + k * 37) rfl (putC x (.slice ba x.b.length bc)) (.struct fs) (rangeAt_qt HRG.out HW.out.q) HFS.out rfl (by rw [putC_len x _ HOK.out.h32]; kernel_rfl) ?_; have HT1 : True := trivial)
            | (have _t := HWT; refine wpList_load_mid rfl 28 (.tmp 53) rfl b (off + k * 37) rfl (putC x (.slice ba x.b.length bc)) (.struct fs) (rangeAt_qt HRG.out HQ5.out) HFS.out rfl (by rw [putC_len x _ HOK.out.h32]; kernel_rfl) ?_)
            | (have _t := HB4; refine wpList_load_row rfl 28 (.tmp 6) rfl wr.heap.size rfl 28 _ (0, 0) (.struct fs) HB4.out HFS.out rfl (putC_size x _ HOK.out.h32) ?_)
            | (at_builtin; go_must (refine wp_appQ rfl (.tmp 39) (.tmp 44) 26 26 rfl w2.heap.size 5 i0 (.int .u8 0) 1 1 (by kernel_rfl) HI0.out HZ0.out HZ1.out HZ2.out rfl _ 0 [] rfl (OQ.emptyNew (Nat.le_refl _)) _ x.b.length (u8s x.b) rfl (Src.ofRd (e' := 5) (by kernel_rfl) (HRD.out.below ((HW.out.q.trans HQ2.out).alloc _)) (by rw [u8s_len, Nat.mul_one]) (by decide) (u8s_one1 x.b)) (by unfold maxLen; omega) (by omega) (by simp) ?_); intro v3 w3 h1 h2 h3; rw [Nat.zero_add, List.nil_append] at h1; (have hq3 : Qt w2 w3 := below_app (hb := (Below.refl w2.heap.size w2).alloc (Nat.le_refl _) _) (OQ.emptyNew (Nat.le_refl _)) h2); obtain ⟨a3, c3, rfl⟩ := h1.slice; (have hb3 := HB2.out.qt hq3); (have d35 : w3.cell? ⟨wr.heap.size, 35, none⟩ = some (.slice ba x.b.length bc) := (hb3.cell 35).trans (putC_35 _ _ HOK.out.h32)); (have g35 : w3.frozen? ⟨wr.heap.size, 35, none⟩ = false := hb3.frozen 35); (have hT := HLT.out); (have gT : Gs (fun j => j = wr.heap.size) w3 (w3.setCell ⟨wr.heap.size, 35, none⟩ (.slice a3 x.b.length c3)) := Gs.of_og ((Og.refl wr.heap.size w3).setCell (.inl rfl) _) rfl); (have hw4 := (HW.out.qt (HQ2.out.trans hq3)).gs gT (fun j e hs => by have := hT.1 j hs; omega) (fun j e hs => by have := hT.2 j hs; omega) (fun j e => by rw [e]; exact HSZ.out)); (have hoq4 := h1.gs gT (fun j hj e => by have := HQ2.out.size; have := HB2.out.lt; omega)); (have HPUT := Lib.hid (put_any Sp (.pointer (some ⟨a, 0, none⟩)) (.live a) x (.slice a3 x.b.length c3) st _ hw4.hp HOK.out (Rd.of_OQ hoq4) (by have := HSL.out; omega))); (have hb4 := hb3.set 35 (.slice a3 x.b.length c3)); rw [putC_set _ _ _ HOK.out.h32] at hb4; (have HB4 := Lib.hid hb4); (have HW4 := Lib.hid hw4); (have HOQ4 := Lib.hid hoq4); clear h1 h2 h3 hq3 hb3 hT gT hw4 hoq4 hb4))
          have hT := HLT.out
          have hz2 := HQ2.out.size
          have hTB := HB2.out.lt
          have hWT := HSZ.out
          have hTg : ∀ k, wr.heap.size ≤ k → ¬Sp k ∧ ¬Sx k := fun k hk => ⟨fun hs => by have := hT.1 k hs; omega, fun hs => by have := hT.2 k hs; omega⟩
          have hb6 := HG6.out.blk (HG5.out.blk HB4.out (hTg _ (Nat.le_refl _)).1) (hTg _ (Nat.le_refl _)).2
          have hoq6 := (HOQ4.out.gs HG5.out (fun j hj => (hTg j (by omega)).1)).gs HG6.out (fun j hj => (hTg j (by omega)).2)
          have hl4 := HOQ4.out.lt
          have hdj : ∀ g, (Value.slice a3 x.b.length c3).ownBlock = some g → ¬Fr Sp (w3.setCell ⟨wr.heap.size, 35, none⟩ (.slice a3 x.b.length c3)) w5 g ∧ ¬Fr Sx w5 w6 g ∧ g ≠ wr.heap.size ∧ W.heap.size ≤ g := by
            intro g hg
            have h1 := hl4 g hg
            have h2 := hTg g (by omega)
            have h3 := HG5.out.size
            refine ⟨?_, ?_, by omega, by omega⟩
            · rintro (h | ⟨h, _⟩)
              · exact h2.1 h
              · omega
            · rintro (h | ⟨h, _⟩)
              · exact h2.2 h
              · omega
          obtain ⟨T, hTe⟩ : ∃ T, T = wr.heap.size := ⟨_, rfl⟩
          obtain ⟨N2, hN2⟩ : ∃ N2, N2 = w2.heap.size := ⟨_, rfl⟩
          have hw6 := HW6.out
          generalize Fr Sp (w3.setCell ⟨wr.heap.size, 35, none⟩ (.slice a3 x.b.length c3)) w5 = Sp' at hdj hw6
          generalize Fr Sx w5 w6 = Sx' at hdj hw6
          rw [← hTe] at hb6 hdj
          rw [← hN2] at hoq6
          rw [← hTe]
          have HDJ := Lib.hid hdj
          have HW6 := Lib.hid hw6
          have HB6 := Lib.hid hb6
          have HOQ6 := Lib.hid hoq6
          have HLEN := Lib.hid (show lenO (putK x st (pk x)) ≤ (k + 1) * 80000 by have := putK_len x HOK.out st (pk x); have := HSL.out; omega)
          clear hT hz2 hTB hWT hTg hb6 hoq6 hl4 hdj hTe hN2 hw6 hlen HLT HSZ HSL HS HQ2 HB2 HG5 HG6 HW4 HB4 HOQ4 HZP HW HPUT HWT
          go_loopw [7] (fun i v => ∃ j : Nat, j ≤ x.b.length ∧ i = .int .i64 j ∧ OQ v N2 1 (.slice a3 x.b.length c3) x.b.length (u8s (over 99 x.b j)) ∧ Blk v T 28 (putC x (.slice a3 x.b.length c3)) ∧ WW W v a xa Sp' Sx' (putK x st (pk x))) (fun i _ => x.b.length - (intOf i).toNat)
          case atStart => exact ⟨0, by omega, rfl, by simpa [over] using HOQ6.out, HB6.out, HW6.out⟩
          case round =>
            obtain ⟨j, hj, rfl, hoq, hbT, hww⟩ := hrel
            have HOQ7 := Lib.hid hoq
            have HB7 := Lib.hid hbT
            have HW7 := Lib.hid hww
            clear hoq hbT hww HOQ6 HB6 HW6
            have c35 : wr.cell? ⟨T, 35, none⟩ = some (.slice a3 x.b.length c3) := (HB7.out.cell 35).trans (putC_35 _ _ HOK.out.h32)
            have d35 : wr.cell? ⟨b, off + k * 37 + 35, none⟩ = some (.slice ba x.b.length bc) := rangeAt_qt HRG.out HW7.out.q 35 _ (putC_35 _ _ HOK.out.h32)
            by_cases hlt2 : j < x.b.length
            · obtain ⟨z, hz⟩ : ∃ z, x.b[j]? = some z := ⟨_, List.getElem?_eq_getElem hlt2⟩
              obtain ⟨g, o, rfl⟩ := OQ.some_of HOQ7.out (by omega)
              have hgg := HDJ.out g rfl
              have cin : wr.cell? ⟨g, o + j, none⟩ = some (.int .u8 (z : Int)) := by
                obtain ⟨_, ⟨h2, _⟩ | ⟨g', off', cap, h2, _, _, _, _, _, hx⟩⟩ := HOQ7.out
                · cases h2
                · cases h2; exact hx j _ (by rw [u8s, List.getElem?_map, over_get _ _ _ _ hz]; rfl)
              have fin : wr.frozen? ⟨g, o + j, none⟩ = false := by
                obtain ⟨_, ⟨h2, _⟩ | ⟨g', off', cap, h2, _, _, h3, _, hc, _⟩⟩ := HOQ7.out
                · cases h2
                · cases h2; exact (hc j (by omega)).2
              obtain ⟨bb, bo, rfl, cb⟩ : ∃ bb bo, ba = some ⟨bb, bo, none⟩ ∧ wr.cell? ⟨bb, bo + j, none⟩ = some (.int .u8 (z : Int)) := by
                obtain ⟨_, _, hv, _, h0 | ⟨b', o', e', hx⟩⟩ := HRD.out.below HW7.out.q
                · have : (u8s x.b).length = 0 := by rw [h0]; rfl
                  rw [u8s_len] at this; omega
                · cases hv; exact ⟨_, _, e', hx j _ (by rw [u8s, List.getElem?_map, hz]; rfl)⟩
              have HST := Lib.hid (over_step 99 x.b j hlt2)
              have i3 : (j : Int) < (x.b.length : Int) := by omega
              have i4 : (0 : Int) ≤ (j : Int) := by omega
              clear hz
              go_wp2_with fail
              go_quiet (fail)
              go_wp2_with fail
              have hq6 : Qt wr (wr.drewN nq) := (Qt.refl wr).drewN nq
              have hi6 := (HOQ7.out.drewN nq).set (k := j) (.int .u8 ((99 : Nat) : Int)) hlt2
              rw [show (u8s (over 99 x.b j)).set j (.int .u8 ((99 : Nat) : Int)) = u8s (over 99 x.b (j + 1)) from by rw [← HST.out]; simp [u8s]] at hi6
              go_roundw
              case rel => exact ⟨j + 1, by omega, by go_num, hi6, (HB7.out.qt hq6).far (p := ⟨g, o + j, none⟩) (by show T ≠ g; omega) _, (HW7.out.qt hq6).gs (R := fun k => k = g) (Gs.of_og ((Og.refl g _).setCell (.inl rfl) _) rfl) (by rintro k rfl; exact hgg.1) (by rintro k rfl; exact hgg.2.1) (by rintro k rfl; exact hgg.2.2.2)⟩
              case measure => simp [intOf]; omega
            · obtain rfl : j = x.b.length := by omega
              go_wp2_with fail
              go_roundw
              case rel => exact ⟨k + 1, _, Sp', Sx', by omega, by go_num, HLEN.out, HW7.out⟩
              case measure => simp [intOf]; omega
      · obtain rfl : k = l.length := by omega
        have hlen2 : lenO st ≤ 140737488355328 := by omega
        have HBY := Lib.hid (wBytes_any Sp a st wr HW.out.hp.2 hlen2)
        have HL2 := Lib.hid hlen2
        obtain ⟨bs, hbs⟩ : ∃ bs, bs = st.getD [] := ⟨_, rfl⟩
        obtain ⟨E, hE⟩ : ∃ E : Int, E = if st.isSome then 0 else 2 := ⟨_, rfl⟩
        obtain ⟨S, hS⟩ : ∃ S, S = str bs := ⟨_, rfl⟩
        have hbl : bs.length ≤ 140737488355328 := by
          rw [hbs]
          cases st with
          | none => exact Nat.zero_le _
          | some l' => exact hlen2
        have HBS := Lib.hid hbs
        have HE := Lib.hid hE
        have HS := Lib.hid hS
        have HXY : Hid (∀ w, WfA Sx w xa st → Calls Tryz.prog 12 #[.pointer (some ⟨xa, 0, none⟩)] w fun e w' => ∃ v, e = .returned (.tuple #[v, .int .i64 E]) ∧ OQ w' w.heap.size 1 v bs.length (u8s bs) ∧ Qt w w') := Lib.hid (fun w h => by rw [hbs, hE]; exact xBytes_any Sx xa st w h hlen2)
        have HPY : Hid (∀ w, WrA Sp w a st → Calls Tryz.prog 11 #[.pointer (some ⟨a, 0, none⟩)] w fun e w' => ∃ v, e = .returned (.tuple #[v, .int .i64 E]) ∧ OQ w' w.heap.size 1 v bs.length (u8s bs) ∧ Qt w w') := Lib.hid (fun w h => by rw [hbs, hE]; exact wBytes_any Sp a st w h hlen2)
        clear hlen2 hlen hbs hE hS HBY
        go_wp2_with (first
          | (go_at_call 11; refine (HPY.out _ HW.out.hp.2).mono ?_; rintro e w5 ⟨v5, rfl, ho5, hq5⟩; obtain ⟨a5, c5, rfl⟩ := ho5.slice; (have HO5 := Lib.hid ho5); (have HQ5 := Lib.hid hq5); clear ho5 hq5)
          | (go_at_call 12; refine (HXY.out _ (HW.out.hx.qt HQ5.out)).mono ?_; rintro e w6 ⟨v6, rfl, ho6, hq6⟩; obtain ⟨a6, c6, rfl⟩ := ho6.slice; (have HO6 := Lib.hid ho6); (have HQ6 := Lib.hid hq6); (have hcv1 := conv_str (P := Tryz.prog) 26 5 (by kernel_rfl) (by kernel_rfl) (Rd.of_OQ (HO5.out.below hq6)) rfl 9 (by kernel_rfl)); (have hcv2 := conv_str (P := Tryz.prog) 26 5 (by kernel_rfl) (by kernel_rfl) (Rd.of_OQ ho6) rfl 9 (by kernel_rfl)); rw [← HS.out] at hcv1 hcv2; clear ho6 hq6))
        obtain ⟨N1, hN1⟩ : ∃ N1, N1 = wr.heap.size := ⟨_, rfl⟩
        obtain ⟨N5, hN5⟩ : ∃ N5, N5 = w5.heap.size := ⟨_, rfl⟩
        have hw6 := HW.out.qt (HQ5.out.trans HQ6.out)
        have hlt := HW.out.lt
        have hq0 := HW.out.q.size
        have hl5 := HO5.out.lt
        have HD5 : Hid (∀ g, (Value.slice a5 bs.length c5).ownBlock = some g → ¬Sp g ∧ ¬Sx g ∧ g < N5 ∧ W.heap.size ≤ g) := Lib.hid (by
          intro g hg
          have h1 := hl5 g hg
          exact ⟨fun hs => by have := hlt.1 g hs; omega, fun hs => by have := hlt.2 g hs; omega, by omega, by omega⟩)
        have ho5 := HO5.out.below HQ6.out
        have ho6 := HO6.out
        rw [← hN1] at ho5
        rw [← hN5] at ho6
        have HW6 := Lib.hid hw6
        have HO56 := Lib.hid ho5
        have HO66 := Lib.hid ho6
        clear hw6 hlt hq0 hl5 ho5 ho6 hN1 hN5 HO5 HO6 HQ5 HQ6 HW hcv1 hcv2
        go_loopw [12] (fun i v => ∃ j : Nat, j ≤ bs.length ∧ i = .int .i64 j ∧ OQ v N1 1 (.slice a5 bs.length c5) bs.length (u8s (over 98 bs j)) ∧ OQ v N5 1 (.slice a6 bs.length c6) bs.length (u8s bs) ∧ WW W v a xa Sp Sx st) (fun i _ => bs.length - (intOf i).toNat)
        case atStart => exact ⟨0, by omega, rfl, by simpa [over] using HO56.out, HO66.out, HW6.out⟩
        case round =>
          obtain ⟨j, hj, rfl, ho5, ho6, hww⟩ := hrel
          have HO7 := Lib.hid ho5
          have HO8 := Lib.hid ho6
          have HW7 := Lib.hid hww
          clear ho5 ho6 hww HW6 HO56 HO66
          by_cases hlt2 : j < bs.length
          · obtain ⟨z, hz⟩ : ∃ z, bs[j]? = some z := ⟨_, List.getElem?_eq_getElem hlt2⟩
            obtain ⟨g, o, rfl⟩ := OQ.some_of HO7.out (by omega)
            have hgg := HD5.out g rfl
            have cin : wr.cell? ⟨g, o + j, none⟩ = some (.int .u8 (z : Int)) := by
              obtain ⟨_, ⟨h2, _⟩ | ⟨g', off', cap, h2, _, _, _, _, _, hx⟩⟩ := HO7.out
              · cases h2
              · cases h2; exact hx j _ (by rw [u8s, List.getElem?_map, over_get _ _ _ _ hz]; rfl)
            have fin : wr.frozen? ⟨g, o + j, none⟩ = false := by
              obtain ⟨_, ⟨h2, _⟩ | ⟨g', off', cap, h2, _, _, h3, _, hc, _⟩⟩ := HO7.out
              · cases h2
              · cases h2; exact (hc j (by omega)).2
            have HST := Lib.hid (over_step 98 bs j hlt2)
            have i3 : (j : Int) < (bs.length : Int) := by omega
            have i4 : (0 : Int) ≤ (j : Int) := by omega
            clear hz
            go_wp2_with fail
            have hi6 := HO7.out.set (k := j) (.int .u8 ((98 : Nat) : Int)) hlt2
            rw [show (u8s (over 98 bs j)).set j (.int .u8 ((98 : Nat) : Int)) = u8s (over 98 bs (j + 1)) from by rw [← HST.out]; simp [u8s]] at hi6
            go_roundw
            case rel => exact ⟨j + 1, by omega, by go_num, hi6, HO8.out.far (p := ⟨g, o + j, none⟩) (by intro e; have := (HO8.out.lt _ e).1; have e2 : (⟨g, o + j, none⟩ : Addr).block = g := rfl; omega) _, HW7.out.gs (R := fun k => k = g) (Gs.of_og ((Og.refl g _).setCell (.inl rfl) _) rfl) (by rintro k rfl; exact hgg.1) (by rintro k rfl; exact hgg.2.1) (by rintro k rfl; exact hgg.2.2.2)⟩
            case measure => simp [intOf]; omega
          · obtain rfl : j = bs.length := by omega
            go_wp2_with (first
              | (go_at_call 11; refine (HPY.out _ HW7.out.hp.2).mono ?_; rintro e w8 ⟨v8, rfl, ho8, hq8⟩; obtain ⟨a8, c8, rfl⟩ := ho8.slice; (have HQ8 := Lib.hid hq8); (have hcv1 := conv_str (P := Tryz.prog) 26 5 (by kernel_rfl) (by kernel_rfl) (Rd.of_OQ ho8) rfl 9 (by kernel_rfl)); (have hcv2 := conv_str (P := Tryz.prog) 26 5 (by kernel_rfl) (by kernel_rfl) (Rd.of_OQ (HO8.out.below hq8)) rfl 9 (by kernel_rfl)); rw [← HS.out] at hcv1 hcv2; clear ho8 hq8)
              | (go_at_call 6; refine (awake_any _).mono ?_; rintro e w9 ⟨rfl, q⟩))
            go_ret
            exact ⟨rfl, (HW7.out.q.trans HQ8.out).trans q⟩
end Go.Proofs.YtajkmblcphdnbaaGreat
