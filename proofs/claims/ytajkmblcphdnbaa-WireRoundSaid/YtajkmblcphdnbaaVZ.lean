import Derived.Test.YtajkmblcphdnbaaVY
import Derived.Test.YtajkmblcphdnbaaVU
/-! WireRound: printed by genround.py. -/
namespace Go.Proofs.Ytajkmblcphdnbaa
open Go.RowKit
set_option linter.unusedVariables false
set_option linter.unusedSimpArgs false

theorem le_sumR {l : List Nat} {n : Nat} (h : n ∈ l) : n ≤ l.sum := by
  induction l with
  | nil => cases h
  | cons a r ih =>
    rw [List.sum_cons]
    rcases List.mem_cons.1 h with rfl | h
    · omega
    · have := ih h; omega
theorem putC_lenR (x : PutD) (bv : Value) (h : x.h.length = 32) : (putC x bv).length = 37 := by simp [putC, u8s_len, h]
theorem lenO_mapR (st : Option (List Nat)) (b : List Nat) : lenO (st.map (· ++ b)) ≤ lenO st + b.length := by
  cases st with
  | none => exact Nat.zero_le _
  | some l => simp [lenO]
theorem putK_lenR (x : PutD) (hx : x.Ok) (st : Option (List Nat)) (k : Nat) : lenO (putK x st k) ≤ lenO st + 40 + x.b.length + x.s.length := by
  unfold putK
  split
  · have := lenO_wBel 1 x.n st; omega
  · have := lenO_wBel 2 x.n st; omega
  · have := lenO_wBel 4 x.n st; omega
  · have := lenO_mapR st (beB 8 x.u); rw [beB_len] at this; omega
  · have := lenO_mapR st (beB 8 x.u); rw [beB_len] at this; omega
  · have := lenO_mapR st x.h; rw [hx.h32] at this; omega
  · have := lenO_mapR st x.b; omega
  · have h1 := lenO_mapR (wBel 2 (x.s.length : Int) st) x.s
    have h2 := lenO_wBel 2 (x.s.length : Int) st
    omega
  · have := lenO_wBel 1 (if (x.n == 1) = true then 1 else 0) st; omega
  · split
    · exact Nat.zero_le _
    · omega
theorem StOk.ask {st : Option (List Nat)} (h : StOk st) (x : PutD) (k : Nat) : StOk (askN x st k) := by
  unfold askN
  split
  · exact h.nxt 1
  · exact h.nxt 2
  · exact h.nxt 4
  · exact h.nxt 8
  · exact h.nxt 8
  · exact h.nxt 32
  · exact h.next { x with n := (x.b.length : Int) } 6
  · exact h.next { x with n := (x.s.length : Int) } 7
  · exact h.next x 8
  · exact h
/-- What all calls put. -/
def encAll : List (PutD × Value) → Option (List Nat)
  | [] => some []
  | x :: r => match encK x.1 (pk x.1), encAll r with
    | some e, some t => some (e ++ t)
    | _, _ => none
theorem encAll_cons {x : PutD × Value} {r : List (PutD × Value)} {t : List Nat} (h : encAll (x :: r) = some t) : ∃ e t', encK x.1 (pk x.1) = some e ∧ encAll r = some t' ∧ t = e ++ t' := by
  rw [encAll] at h
  split at h
  · rename_i e t' h1 h2
    cases h
    exact ⟨e, t', h1, h2, rfl⟩
  · cases h
/-- A writer's state behind so many calls. -/
def stP (l : List (PutD × Value)) (k : Nat) : Option (List Nat) := (l.take k).foldl (fun st x => putK x.1 st (pk x.1)) (some [])
theorem stP_step (l : List (PutD × Value)) (k : Nat) (x : PutD × Value) (h : l[k]? = some x) : stP l (k + 1) = putK x.1 (stP l k) (pk x.1) := by
  obtain ⟨hk, rfl⟩ := List.getElem?_eq_some_iff.1 h
  unfold stP
  rw [List.take_succ_eq_append_getElem hk, List.foldl_append]
  rfl
theorem fold_enc (l : List (PutD × Value)) (st : Option (List Nat)) : l.foldl (fun st x => putK x.1 st (pk x.1)) st = match st, encAll l with | some c, some t => some (c ++ t) | _, _ => none := by
  induction l generalizing st with
  | nil => cases st <;> simp [encAll]
  | cons x r ih =>
    rw [List.foldl_cons, ih]
    cases st with
    | none => rw [putK_none]
    | some c =>
      rw [putK_enc, encAll]
      cases encK x.1 (pk x.1) with
      | none => rfl
      | some e =>
        cases encAll r with
        | none => rfl
        | some t => simp
theorem stP_all (l : List (PutD × Value)) : stP l l.length = encAll l := by
  unfold stP
  rw [List.take_length, fold_enc]
  cases encAll l <;> simp
theorem drop_at {l : List (PutD × Value)} {k : Nat} {x : PutD × Value} (h : l[k]? = some x) : l.drop k = x :: l.drop (k + 1) := by
  obtain ⟨hk, rfl⟩ := List.getElem?_eq_some_iff.1 h
  exact List.drop_eq_getElem_cons hk
/-- What a cut reader has left of what is to be asked. -/
def Cut (st : Option (List Nat)) (t : List Nat) : Prop := st = none ∨ ∃ q u, st = some q ∧ u ≠ [] ∧ q ++ u = t
theorem Cut.ask {st : Option (List Nat)} {e t : List Nat} (h : Cut st (e ++ t)) (x : PutD) (hx : x.Ok) (he : encK x (pk x) = some e) : Cut (askN x st (pk x)) t := by
  rcases h with rfl | ⟨q, u, rfl, hu, hq⟩
  · exact .inl (askN_none x _)
  · cases h : askN x (some q) (pk x) with
    | none => exact .inl rfl
    | some q' => exact .inr ⟨q', u, rfl, hu, ask_pre x hx _ q q' u e t he hq h⟩
theorem Cut.end {st : Option (List Nat)} (h : Cut st []) : (st == some []) = false := by
  rcases h with rfl | ⟨q, u, rfl, hu, hq⟩
  · rfl
  · have := List.append_eq_nil_iff.1 hq
    exact absurd this.2 hu

/-- A reader of the call's own. -/
def RdB (W w : World) (a : Nat) (st : Option (List Nat)) : Prop := RdA w a st ∧ W.heap.size ≤ a ∧ StOk st
theorem ask_B (W w : World) (a : Nat) (st : Option (List Nat)) (x : PutD) (bv : Value) (h : RdB W w a st) (q : Qt W w) (hx : x.Ok) (hb : Rd W bv x.b.length (u8s x.b)) :
    Calls Try.prog 25 #[.pointer (some ⟨a, 0, none⟩), .agg (putC x bv).toArray] w fun e w' => ∃ b, e = .returned (.bool b) ∧ (askT x st (pk x) → b = true) ∧ RdB W w' a (askN x st (pk x)) ∧ Qt W w' ∧ ∀ s st2, s ≠ a → RdA w s st2 → RdA w' s st2 := by
  obtain ⟨h1, h2, h3⟩ := h
  have hS : ∀ k, (RM.live a).S k → W.heap.size ≤ k := by rintro k rfl; exact h2
  refine (ask_any _ (.live a) x bv st w ⟨rfl, h1⟩ h3 hx (fun w1 w' q1 g => hb.below (Gs.below (q.trans q1) g hS))).mono ?_
  rintro e w' ⟨b, rfl, hb, ⟨_, hr⟩, g⟩
  refine ⟨b, rfl, hb, ⟨hr, h2, h3.ask x _⟩, Gs.below q g.1 hS, fun s st2 hne hs => ?_⟩
  cases st with
  | none => exact hs.qt (g.2 rfl)
  | some l => exact hs.og h1 hne ⟨g.1.os, g.1.tape, g.1.output, g.1.size, fun k hk hn => g.1.block k hk (fun e => hn (by cases e; rfl))⟩
theorem put_B (W w : World) (a : Nat) (st : Option (List Nat)) (x : PutD) (bv : Value) (h : WrB W w a st) (hx : x.Ok) (hb : Rd W bv x.b.length (u8s x.b)) (hl : lenO st + 40 + x.b.length + x.s.length ≤ 140737488355328) :
    Calls Try.prog 14 #[.pointer (some ⟨a, 0, none⟩), .agg (putC x bv).toArray] w fun e w' => e = .returned (.tuple #[]) ∧ WrB W w' a (putK x st (pk x)) := by
  obtain ⟨S, h1, h2, h3⟩ := h
  refine (put_any S _ (.live a) x bv st w ⟨rfl, h1⟩ hx (hb.below h3) hl).mono ?_
  rintro e w' ⟨rfl, ⟨_, hw⟩, hg⟩
  exact ⟨rfl, WrB.mk hw h2 h3 hg⟩
theorem WrB.q {W w : World} {a : Nat} {st : Option (List Nat)} (h : WrB W w a st) : Qt W w := by obtain ⟨_, _, _, h⟩ := h; exact h
theorem bytes_B (W w : World) (a : Nat) (st : Option (List Nat)) (h : WrB W w a st) (hl : lenO st ≤ 140737488355328) :
    Calls Try.prog 16 #[.pointer (some ⟨a, 0, none⟩)] w fun e w' => ∃ v, e = .returned (.tuple #[v, .int .i64 (if st.isSome then 0 else 2)]) ∧ OQ w' w.heap.size 1 v (st.getD []).length (u8s (st.getD [])) ∧ Qt w w' := by
  obtain ⟨S, h1, h2, h3⟩ := h
  exact wBytes_any S a st w h1 hl
/-- What stands first of a slice. -/
theorem Sl.pre {w : World} {a : Option Addr} {n c j : Nat} {l : List Nat} (h : Sl w (.slice a n c) l) (hj : j ≤ n) (hn : l.length = n) (h0 : 0 < n) : Sl w (.slice a j c) (l.take j) := by
  rcases h with ⟨⟨a0, h⟩, _⟩ | ⟨b, off, c', h, h1, h2, h3⟩
  · simp only [Value.slice.injEq] at h; omega
  · simp only [Value.slice.injEq] at h
    obtain ⟨rfl, _, rfl⟩ := h
    have hl : (l.take j).length = j := by rw [List.length_take]; omega
    refine .inr ⟨b, off, c, by rw [hl], by omega, ⟨h2.1, by omega⟩, fun i y hy => h3 i y ?_⟩
    have hi := (List.getElem?_eq_some_iff.1 hy).1
    rw [hl] at hi
    rwa [List.getElem?_take, if_pos hi] at hy

set_option maxRecDepth 1000000 in
set_option maxHeartbeats 4000000 in
theorem wireRound_any (pv : Value) (cut : Int) (l : List (PutD × Value)) (W : World) (hp : Puts W pv l) (hc0 : -9223372036854775808 ≤ cut) (hc1 : cut < 9223372036854775808) :
    Calls Try.prog 6 #[pv, .int .i64 cut] W fun e w' => e = .returned (.bool true) ∧ Qt W w' := by
  have HP := Lib.hid hp
  have HG := Lib.hid (fun w (q : Qt W w) => great_any pv l none 0 0 w (hp.qt q) (by decide))
  have HCUT := Lib.hid (show -9223372036854775808 ≤ cut ∧ cut < 9223372036854775808 from ⟨hc0, hc1⟩)
  obtain ⟨pa, c, rfl, hpc, hpm, _⟩ := hp
  have hpm1 := hpm.1
  have hpm2 := hpm.2
  clear hpm hc0 hc1
  rw [Nat.add_zero] at HG
  cases hg : greatL l l.length with
  | true =>
    rw [hg] at HG
    clear hg
    go_enter Try.func6, Try.ntmps6
    go_wp2_with (first
      | (go_at_call 9; refine (awake_any _).mono ?_; rintro e w1 ⟨rfl, q⟩; have HQ1 := Lib.hid q; clear q)
      | (go_at_call 8; refine (HG.out _ HQ1.out).mono ?_; rintro e w2 ⟨rfl, rfl⟩))
    go_ret
    exact ⟨rfl, HQ1.out⟩
  | false =>
    rw [hg] at HG
    obtain ⟨hn, _⟩ := greatL_no hg
    have hb300 : ∀ x ∈ l, x.1.b.length ≤ 300 := fun x hx => by
      have : x.1.b.length ≤ (l.map fun x => x.1.b.length).sum := le_sumR (List.mem_map.2 ⟨x, hx, rfl⟩)
      omega
    have hl300 : l.length ≤ 300 := by omega
    have HB300 := Lib.hid hb300
    clear hg hn hb300
    obtain ⟨i0, hi0, hz0, hz1, hz2⟩ := info_parts (P := Try.prog) (e := 5) (z := .int .u8 0) (size := 1) (bytes := 1) (by kernel_rfl)
    have HI0 := Lib.hid hi0
    have HZ0 := Lib.hid hz0
    have HZ1 := Lib.hid hz1
    have HZ2 := Lib.hid hz2
    clear hi0 hz0 hz1 hz2
    obtain ⟨fs, hfs⟩ : ∃ fs, Try.prog.underlying 39 = some (.struct fs) := und_struct (by kernel_rfl)
    have HFS := Lib.hid hfs
    clear hfs
    go_enter Try.func6, Try.ntmps6
    go_wp2_with (first
      | (go_at_call 9; refine (awake_any _).mono ?_; rintro e w1 ⟨rfl, q⟩; have HQ1 := Lib.hid q; clear q)
      | (go_at_call 8; refine (HG.out _ HQ1.out).mono ?_; rintro e w2 ⟨rfl, rfl⟩)
      | (go_at_call 13; refine (newWriter_any _).mono ?_; rintro e w2 ⟨rfl, hw, hq, _⟩; (have HWB := Lib.hid (⟨_, hw, (fun k hk => by rw [hk]; exact HQ1.out.size), HQ1.out.trans hq⟩ : WrB W w2 w1.heap.size (some []))); clear hw hq))
    obtain ⟨a, ha⟩ : ∃ a, a = w1.heap.size := ⟨_, rfl⟩
    rw [← ha] at HWB
    rw [← ha]
    clear ha
    go_loopw [6] (fun i wr => ∃ k : Nat, k ≤ l.length ∧ i = .int .i64 k ∧ lenO (stP l k) ≤ k * 1000 ∧ WrB W wr a (stP l k)) (fun i _ => l.length - (intOf i).toNat)
    case atStart => exact ⟨0, by omega, rfl, by simp [stP, lenO], HWB.out⟩
    case round =>
      obtain ⟨k, hk, rfl, hlen, hwb⟩ := hrel
      have HW := Lib.hid hwb
      clear hwb HWB
      by_cases hlt : k < l.length
      · obtain ⟨xx, hxx⟩ : ∃ xx, l[k]? = some xx := ⟨_, List.getElem?_eq_getElem hlt⟩
        obtain ⟨b, off, rfl, hrg, hok, hrd⟩ := HP.out.at hxx
        have hb3 := HB300.out _ (List.mem_of_getElem? hxx)
        have HST := Lib.hid (stP_step l k xx hxx)
        obtain ⟨x, bv⟩ := xx
        dsimp only at hrg hok hrd hb3 HST
        have hQW := HW.out.q
        have c36 : wr.cell? ⟨b, off + k * 37 + 36, none⟩ = some (.string (str x.s)) := rangeAt_qt hrg hQW 36 _ (putC_36 _ _ hok.h32)
        have hsz : (str x.s).size = x.s.length := str_size _
        have HRD := Lib.hid hrd
        have HRG := Lib.hid hrg
        have HOK := Lib.hid hok
        have i1 : (k : Int) < (l.length : Int) := by omega
        have i2 : (0 : Int) ≤ (k : Int) := by omega
        have hs8 : (str x.s).size ≤ 140737488351232 := by have := hok.sl; omega
        have HQW := Lib.hid hQW
        clear hrg hok hrd hxx hQW
        by_cases h7 : 300 < x.s.length
        · generalize hS : str x.s = S at *
          have hs7 : decide ((300 : Int) < (S.size : Int)) = true := by simp; omega
          have HS := Lib.hid hS
          clear hS hsz h7
          go_wp2_with fail
          go_ret
          exact ⟨rfl, HQW.out⟩
        · generalize hS : str x.s = S at *
          have hs7 : decide ((300 : Int) < (S.size : Int)) = false := by simp; omega
          have HS := Lib.hid hS
          have HSL := Lib.hid (show x.s.length ≤ 300 by omega)
          have HPUT := Lib.hid (put_B W wr a (stP l k) x bv HW.out HOK.out HRD.out (by omega))
          have HLEN := Lib.hid (show lenO (putK x (stP l k) (pk x)) ≤ (k + 1) * 1000 by have := putK_lenR x HOK.out (stP l k) (pk x); omega)
          clear hS hsz h7 hlen
          go_wp2_with (first
            | (go_at_call 14; refine HPUT.out.mono ?_; rintro e w5 ⟨rfl, hw5⟩; (have HW5 := Lib.hid hw5); clear hw5)
            | (refine wpList_load_mid rfl 39 (.tmp 35) rfl b (off + k * 37) rfl (putC x bv) (.struct fs) (rangeAt_qt HRG.out HQW.out) HFS.out rfl (by rw [putC_lenR x _ HOK.out.h32]; kernel_rfl) ?_))
          go_roundw
          case rel => exact ⟨k + 1, by omega, by go_num, by rw [HST.out]; exact HLEN.out, by rw [HST.out]; exact HW5.out⟩
          case measure => simp [intOf]; omega
      · obtain rfl : k = l.length := by omega
        have hlen2 : lenO (stP l l.length) ≤ 140737488355328 := by omega
        have hQ0 := HW.out.q
        have HBY := Lib.hid (bytes_B W wr a _ HW.out hlen2)
        rw [stP_all] at HBY hlen2
        cases hen : encAll l with
        | none =>
          rw [hen] at HBY
          clear hlen2 hlen
          have HQ0 := Lib.hid hQ0
          clear hQ0
          go_wp2_with (go_at_call 16; refine HBY.out.mono ?_; rintro e w5 ⟨v5, rfl, ho5, hq5⟩; obtain ⟨a5, c5, rfl⟩ := ho5.slice; (have HQ5 := Lib.hid (HQ0.out.trans hq5)); clear ho5 hq5)
          go_ret
          exact ⟨rfl, HQ5.out⟩
        | some bs =>
          rw [hen] at HBY hlen2
          have hby := HBY.out
          simp only [Option.getD_some, Option.isSome_some, if_true] at hby
          have hbl : bs.length ≤ 140737488355328 := hlen2
          have hw8 := HW.out
          rw [stP_all, hen] at hw8
          have h8 : ∀ x ∈ bs, x < 256 := by obtain ⟨S, ⟨sl, _, ho⟩, _⟩ := hw8; exact ho.b8
          have hbl3 : bs.length ≤ 300000 := by rw [stP_all, hen] at hlen; have : bs.length ≤ l.length * 1000 := hlen; omega
          have H8 := Lib.hid h8
          have HQ0 := Lib.hid hQ0
          have HBY := Lib.hid hby
          have HEN := Lib.hid hen
          clear hlen2 hlen hQ0 hby hw8 h8 HW hen
          go_wp2_with (first
            | (go_at_call 16; refine HBY.out.mono ?_; rintro e w5 ⟨v5, rfl, ho5, hq5⟩; obtain ⟨a5, c5, rfl⟩ := ho5.slice; (have HO5 := Lib.hid ho5); (have HQ5 := Lib.hid (HQ0.out.trans hq5)); (have HNR := Lib.hid (NewReader_any _ bs w5 (OQ.sl ho5 hbl) H8.out)); clear ho5 hq5)
            | (go_at_call 10; refine HNR.out.mono ?_; rintro e w6 ⟨r, rfl, hr0, hr, hq6⟩; (have HR6 := Lib.hid (show RdB w5 w6 r (some bs) from ⟨hr, hr0, fun l' e => by cases e; exact ⟨hbl, H8.out⟩⟩)); (have HQ6 := Lib.hid hq6); clear hr0 hr hq6))
          go_loopw [10] (fun i v => ∃ (k : Nat) (t : List Nat), k ≤ l.length ∧ i = .int .i64 k ∧ encAll (l.drop k) = some t ∧ RdB w5 v r (some t) ∧ Qt w5 v) (fun i _ => l.length - (intOf i).toNat)
          case atStart => exact ⟨0, bs, by omega, rfl, HEN.out, HR6.out, HQ6.out⟩
          case round =>
            obtain ⟨k, t, hk, rfl, ht, hr, hq⟩ := hrel
            have HR := Lib.hid hr
            have HQ := Lib.hid hq
            have HT := Lib.hid ht
            clear hr hq ht HR6 HQ6 HNR
            by_cases hlt : k < l.length
            · obtain ⟨xx, hxx⟩ : ∃ xx, l[k]? = some xx := ⟨_, List.getElem?_eq_getElem hlt⟩
              obtain ⟨b, off, rfl, hrg, hok, hrd⟩ := HP.out.at hxx
              obtain ⟨e, t', he, ht', rfl⟩ := encAll_cons ((congrArg encAll (drop_at hxx)).symm.trans HT.out)
              obtain ⟨x, bv⟩ := xx
              dsimp only at hrg hok hrd he
              obtain ⟨hN, hT⟩ := ask_put x hok (pk x) e t' he
              have HASK := Lib.hid ((ask_B w5 wr r _ x bv HR.out HQ.out hok (hrd.below HQ5.out)).mono (R' := fun e w' => e = .returned (.bool true) ∧ RdB w5 w' r (some t') ∧ Qt w5 w') (by rintro e w' ⟨b, rfl, h1, h2, h3, _⟩; rw [h1 hT]; rw [hN] at h2; exact ⟨rfl, h2, h3⟩))
              have HRG := Lib.hid (rangeAt_qt hrg (HQ5.out.trans HQ.out))
              have H37 := Lib.hid (putC_lenR x bv hok.h32)
              have HT' := Lib.hid ht'
              have i1 : (k : Int) < (l.length : Int) := by omega
              have i2 : (0 : Int) ≤ (k : Int) := by omega
              clear hrg hok hrd hxx he hN hT ht' HT
              go_wp2_with (first
                | (go_at_call 25; refine HASK.out.mono ?_; rintro e w7 ⟨rfl, hr7, hq7⟩; (have HR7 := Lib.hid hr7); (have HQ7 := Lib.hid hq7); clear hr7 hq7)
                | (refine wpList_load_mid rfl 39 (.tmp 63) rfl b (off + k * 37) rfl (putC x bv) (.struct fs) HRG.out HFS.out rfl (by rw [H37.out]; kernel_rfl) ?_))
              go_roundw
              case rel => exact ⟨k + 1, t', by omega, by go_num, HT'.out, HR7.out, HQ7.out⟩
              case measure => simp [intOf]; omega
            · obtain rfl : k = l.length := by omega
              obtain rfl : t = [] := by have := HT.out; rw [List.drop_length, encAll] at this; cases this; rfl
              have HEND := Lib.hid (End_any r (some []) wr HR.out.1)
              have HQW := Lib.hid (HQ5.out.trans HQ.out)
              clear HR HT
              by_cases h0 : bs.length = 0
              · go_wp2_with (go_at_call 21; refine HEND.out.mono ?_; rintro e w7 ⟨rfl, rfl⟩)
                go_ret
                exact ⟨rfl, HQW.out⟩
              · obtain ⟨j, hj⟩ : ∃ j : Nat, cut % (bs.length : Int) = (j : Int) := ⟨(cut % (bs.length : Int)).toNat, by have := Int.emod_nonneg cut (show (bs.length : Int) ≠ 0 by omega); omega⟩
                have hjn : j < bs.length := by have := Int.emod_lt_of_pos cut (show (0 : Int) < (bs.length : Int) by omega); omega
                have HPK := Lib.hid (fun w => pick_any cut (bs.length : Int) w HCUT.out.1 HCUT.out.2 (by omega) (by omega))
                have HJ := Lib.hid hj
                have hsl := OQ.sl (HO5.out.below HQ.out) hbl
                have hcap : bs.length ≤ c5 ∧ c5 ≤ 9223372036854775807 := by
                  rcases hsl with ⟨⟨_, h⟩, _⟩ | ⟨_, _, _, h, h1, h2, _⟩
                  · simp only [Value.slice.injEq] at h; omega
                  · simp only [Value.slice.injEq] at h; omega
                have hcap1 := hcap.1
                have hcap2 := hcap.2
                have hsr := hsl.pre (j := j) (by omega) rfl (by omega)
                have HBQ := Lib.hid (HO5.out.below HQ.out)
                have i3 : ¬ ((bs.length : Int) = 0) := by omega
                obtain ⟨b5, o5, rfl⟩ := OQ.some_of HO5.out (by omega)
                have HNR := Lib.hid (NewReader_any _ (bs.take j) wr hsr (fun x hx => H8.out x (List.mem_of_mem_take hx)))
                have hz5 := HQ.out.size
                clear hj hsl hcap hsr
                go_wp2_with (first
                  | (go_at_call 21; refine HEND.out.mono ?_; rintro e w7 ⟨rfl, rfl⟩)
                  | (go_at_call 26; refine (HPK.out _).mono ?_; rintro e w7 ⟨rfl, rfl⟩; rw [HJ.out])
                  | (have _t := HNR; go_at_call 10; refine HNR.out.mono ?_; rintro e w7 ⟨s, rfl, hs0, hs, hq7⟩; (have HS0 := Lib.hid hs0); (have HS := Lib.hid hs); (have HQ7 := Lib.hid hq7); clear hs0 hs hq7; clear HNR)
                  | (have _t := HS0; at_builtin; go_must (refine wp_appQ rfl (.tmp 84) (.tmp 85) 22 22 rfl w7.heap.size 5 i0 (.int .u8 0) 1 1 (by kernel_rfl) HI0.out HZ0.out HZ1.out HZ2.out rfl _ 0 [] rfl (OQ.emptyNew (Nat.le_refl _)) _ bs.length (u8s bs) rfl (Src.ofRd (e' := 5) (by kernel_rfl) (Rd.of_OQ (HBQ.out.below (HQ7.out.alloc _))) (by rw [u8s_len, Nat.mul_one]) (by decide) (u8s_one1 bs)) (by unfold maxLen; omega) (by omega) (by simp) ?_); intro v8 w8 h1 h2 h3; rw [Nat.zero_add, List.nil_append] at h1; (have hq8 : Qt w7 w8 := below_app (hb := (Below.refl w7.heap.size w7).alloc (Nat.le_refl _) _) (OQ.emptyNew (Nat.le_refl _)) h2); obtain ⟨a8, c8, rfl⟩ := h1.slice; (have HO8 := Lib.hid h1); (have HQ8 := Lib.hid hq8); (have HS1 := Lib.hid HS0.out); clear h1 h2 h3 hq8 HS0)
                  | (have _t := HO8; at_builtin; go_must (refine wp_appQ rfl (.tmp 86) (.tmp 87) 22 22 rfl w7.heap.size 5 i0 (.int .u8 0) 1 1 (by kernel_rfl) HI0.out HZ0.out HZ1.out HZ2.out rfl _ bs.length (u8s bs) rfl (HO8.out.alloc _) _ 1 [.int .u8 0] rfl (Src.ofRd (e' := 5) (by kernel_rfl) rdv_new rfl (by decide) (fun y hy => by simp at hy; rw [hy]; rfl)) (by unfold maxLen; omega) (by omega) ((HQ8.out.alloc _).size) ?_); intro v9 w9 h1 h2 h3; (have hq9 : Qt w7 w9 := below_app (hb := HQ8.out.alloc _) (HO8.out.alloc _) h2); (have e9 : u8s bs ++ [.int .u8 0] = u8s (bs ++ [0]) := by simp [u8s]); rw [e9] at h1; obtain ⟨a9, c9, rfl⟩ := h1.slice; (have hl9 : (bs ++ [0]).length = bs.length + 1 := by simp); (have HNR2 := Lib.hid (NewReader_any _ (bs ++ [0]) w9 (OQ.sl (by rw [hl9]; exact h1) (by omega)) (by intro x hx; rcases List.mem_append.1 hx with hx | hx; exact H8.out x hx; simp at hx; omega))); (have HQ9 := Lib.hid hq9); clear h1 h2 h3 hq9 e9 hl9 HO8)
                  | (go_at_call 10; refine HNR2.out.mono ?_; rintro e w10 ⟨g, rfl, hg0, hg, hq10⟩; (have HG0 := Lib.hid hg0); (have HGR := Lib.hid hg); (have HQ10 := Lib.hid hq10); clear hg0 hg hq10))
                have hq10 : Qt w5 w10 := HQ.out.trans (HQ7.out.trans (HQ9.out.trans HQ10.out))
                have hz7 := HS.out.lt
                have hz9 := HQ9.out.size
                have hs1 := HS1.out
                have hg0 := HG0.out
                have hz6 := HQ7.out.size
                have hb1 : ∀ x ∈ bs ++ [0], x < 256 := by intro x hx; rcases List.mem_append.1 hx with hx | hx; exact H8.out x hx; simp at hx; omega
                have HSB := Lib.hid (show RdB w5 w10 s (some (bs.take j)) from ⟨(HS.out.qt HQ9.out).qt HQ10.out, by omega, fun l' e => by cases e; exact ⟨by rw [List.length_take]; omega, fun x hx => H8.out x (List.mem_of_mem_take hx)⟩⟩)
                have HGB := Lib.hid (show RdB w5 w10 g (some (bs ++ [0])) from ⟨HGR.out, by omega, fun l' e => by cases e; exact ⟨by simp; omega, hb1⟩⟩)
                have HNE := Lib.hid (show g ≠ s by omega)
                have HCT := Lib.hid (show Cut (some (bs.take j)) bs from .inr ⟨bs.take j, bs.drop j, rfl, by intro e; have := congrArg List.length e; simp at this; omega, List.take_append_drop j bs⟩)
                have HQA := Lib.hid hq10
                clear hq10 hz7 hz9 hs1 hg0 hz6 hb1 hz5 HS HGR HG0 HS1 HQ7 HQ8 HQ9 HQ10 HNR2 HQ HBQ HPK HJ
                go_loopw [13] (fun i v => ∃ (k : Nat) (t : List Nat) (st : Option (List Nat)), k ≤ l.length ∧ i = .int .i64 k ∧ encAll (l.drop k) = some t ∧ Cut st t ∧ RdB w5 v s st ∧ RdB w5 v g (some (t ++ [0])) ∧ Qt w5 v) (fun i _ => l.length - (intOf i).toNat)
                case atStart => exact ⟨0, bs, _, by omega, rfl, HEN.out, HCT.out, HSB.out, HGB.out, HQA.out⟩
                case round =>
                  obtain ⟨k, t, st, hk, rfl, ht, hct, hs, hg, hq⟩ := hrel
                  have HS := Lib.hid hs
                  have HG := Lib.hid hg
                  have HQ := Lib.hid hq
                  have HT := Lib.hid ht
                  have HC := Lib.hid hct
                  clear hs hg hq ht hct HSB HGB HQA HCT
                  by_cases hlt : k < l.length
                  · obtain ⟨xx, hxx⟩ : ∃ xx, l[k]? = some xx := ⟨_, List.getElem?_eq_getElem hlt⟩
                    obtain ⟨b, off, rfl, hrg, hok, hrd⟩ := HP.out.at hxx
                    obtain ⟨e, t', he, ht', rfl⟩ := encAll_cons ((congrArg encAll (drop_at hxx)).symm.trans HT.out)
                    obtain ⟨x, bv⟩ := xx
                    dsimp only at hrg hok hrd he
                    obtain ⟨hN, hT⟩ := ask_put x hok (pk x) e (t' ++ [0]) he
                    have HASK := Lib.hid (ask_B w5 wr s _ x bv HS.out HQ.out hok (hrd.below HQ5.out))
                    have HASK2 := Lib.hid (fun v (h : RdB w5 v g (some (e ++ (t' ++ [0])))) (q : Qt w5 v) => ask_B w5 v g _ x bv h q hok (hrd.below HQ5.out))
                    have HRG := Lib.hid hrg
                    have H37 := Lib.hid (putC_lenR x bv hok.h32)
                    have HT' := Lib.hid ht'
                    have HN := Lib.hid hN
                    have HCC := Lib.hid (HC.out.ask x hok he)
                    have HG' := Lib.hid (show RdB w5 wr g (some (e ++ (t' ++ [0]))) by rw [← List.append_assoc]; exact HG.out)
                    have i1 : (k : Int) < (l.length : Int) := by omega
                    have i2 : (0 : Int) ≤ (k : Int) := by omega
                    clear hrg hok hrd hxx he hN hT ht' HT HC HG
                    go_wp2_with (first
                      | (have _t := HASK; go_at_call 25; refine HASK.out.mono ?_; rintro e1 w7 ⟨b1, rfl, _, hs7, hq7, hk7⟩; (have HS7 := Lib.hid hs7); (have HQ7 := Lib.hid hq7); (have HG7 := Lib.hid (show RdB w5 w7 g (some (e ++ (t' ++ [0]))) from ⟨hk7 g _ HNE.out HG'.out.1, HG'.out.2⟩)); clear hs7 hq7 hk7 HASK)
                      | (go_at_call 25; refine (HASK2.out _ HG7.out HQ7.out).mono ?_; rintro e1 w8 ⟨b2, rfl, _, hg8, hq8, hk8⟩; rw [HN.out] at hg8; (have HG8 := Lib.hid hg8); (have HQ8 := Lib.hid hq8); (have HS8 := Lib.hid (show RdB w5 w8 s (askN x st (pk x)) from ⟨hk8 s _ HNE.out.symm HS7.out.1, HS7.out.2⟩)); clear hg8 hq8 hk8)
                      | (have _t := HASK; refine wpList_load_mid rfl 39 (.tmp 99) rfl b (off + k * 37) rfl (putC x bv) (.struct fs) (rangeAt_qt HRG.out (HQ5.out.trans HQ.out)) HFS.out rfl (by rw [H37.out]; kernel_rfl) ?_)
                      | (have _t := HG7; refine wpList_load_mid rfl 39 (.tmp 105) rfl b (off + k * 37) rfl (putC x bv) (.struct fs) (rangeAt_qt HRG.out (HQ5.out.trans HQ7.out)) HFS.out rfl (by rw [H37.out]; kernel_rfl) ?_))
                    go_roundw
                    case rel => exact ⟨k + 1, t', _, by omega, by go_num, HT'.out, HCC.out, HS8.out, HG8.out, HQ8.out⟩
                    case measure => simp [intOf]; omega
                  · obtain rfl : k = l.length := by omega
                    obtain rfl : t = [] := by have := HT.out; rw [List.drop_length, encAll] at this; cases this; rfl
                    have HE1 := Lib.hid (show Calls Try.prog 21 #[.pointer (some ⟨s, 0, none⟩)] wr fun e w' => e = .returned (.bool false) ∧ wr = w' by have := End_any s st wr HS.out.1; rw [HC.out.end] at this; exact this)
                    have HE2 := Lib.hid (show Calls Try.prog 21 #[.pointer (some ⟨g, 0, none⟩)] wr fun e w' => e = .returned (.bool false) ∧ wr = w' from End_any g (some [0]) wr HG.out.1)
                    go_wp2_with (first
                      | (have _t := HE1; go_at_call 21; refine HE1.out.mono ?_; rintro e w7 ⟨rfl, rfl⟩; clear HE1)
                      | (go_at_call 21; refine HE2.out.mono ?_; rintro e w7 ⟨rfl, rfl⟩))
                    go_ret
                    exact ⟨rfl, HQ5.out.trans HQ.out⟩
end Go.Proofs.Ytajkmblcphdnbaa
