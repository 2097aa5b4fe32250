import Derived.Test.YtipgpnkdgofdeaaTD
import Derived.Defers
import Derived.Recover
/-! open: a term's branch, if it is in order. -/
namespace Go.Proofs.Ytipgpnkdgofdeaa.Tm
open Go.RowKit
set_option linter.unusedVariables false
set_option linter.unusedSimpArgs false

theorem as_none (v : Value) (w : World) : (Instr.typeAssert (.iface 82 v) 20 82 true).run Try.prog w = .ok (.tuple #[v, .bool true]) w := by kernel_rfl
/-- Nothing. -/
def zBr : List Value := [.int .i64 0, .int .i64 0, .int .u64 0, .string ⟨#[]⟩, .int .i64 0, .slice none 0 0, .slice none 0 0]
theorem zBr_one : ∀ u ∈ zBr, u.oneCell' = true := by
  intro u hu
  simp only [zBr, List.mem_cons, List.not_mem_nil, or_false] at hu
  rcases hu with rfl | rfl | rfl | rfl | rfl | rfl | rfl <;> rfl
theorem catch_idle (p q : Value) (w : World) :
    CallsD Try.prog 62 #[p, q] .returning w fun e u' w' => e = .returned (.tuple #[]) ∧ u' = .returning ∧ w' = w := by
  refine callsD_of_wpS Try.func62 rfl fun c₀ cs hu => ?_
  apply wpS_seq
  apply wpS_region
  simp [wpOpsS, go_sem, recoverD, hu, Try.ntmps62, Exit.thenS]
  refine wpS_of_wp ?_
  simp only [Array.replicate_succ, Array.replicate_zero, List.push_toArray, List.setIfInBounds_toArray, List.append_toArray, List.nil_append, List.cons_append, List.set_cons_succ, List.set_cons_zero]
  go_wp2
  cases c₀
  simp_all [bodyPostS, results, Try.results62]
set_option maxRecDepth 100000 in
set_option maxHeartbeats 400000 in
theorem catch_none (p q : Nat) (older : List PanicEntry) (old : List Value) (ok0 : Value) (w : World) (hp : Blk w p 60 old) (hl : old.length = 7) (hq : w.cell? ⟨q, 0, none⟩ = some ok0) (hqf : w.frozen? ⟨q, 0, none⟩ = false) (hne : p < q) :
    CallsD Try.prog 62 #[.pointer (some ⟨p, 0, none⟩), .pointer (some ⟨q, 0, none⟩)] (.panicking (tnone :: older)) w fun e u' w' =>
      e = .returned (.tuple #[]) ∧ u' = .panicking ({ tnone with recovered := true } :: older) ∧ Blk w' p 60 zBr ∧ w'.cell? ⟨q, 0, none⟩ = some (.bool false) ∧ ∀ w0, Qt w0 w → w0.heap.size ≤ p → Qt w0 w' := by
  have HP := Lib.hid hp
  have hq' : q < w.heap.size := blk_of_cell hq
  have q1 : ∀ o, (w.alloc o).cell? ⟨q, 0, none⟩ = some ok0 := fun o => cell_al hq hq' o
  have q2 : ∀ o, (w.alloc o).frozen? ⟨q, 0, none⟩ = false := fun o => frozen_al hqf hq' o
  have H1 := as_none
  clear hp hq hqf
  refine callsD_of_wpS Try.func62 rfl fun c₀ cs hu => ?_
  apply wpS_seq
  apply wpS_region
  simp [wpOpsS, go_sem, recoverD, hu, Try.ntmps62, Exit.thenS, tnone]
  refine wpS_of_wp ?_
  simp only [Array.replicate_succ, Array.replicate_zero, List.push_toArray, List.setIfInBounds_toArray, List.append_toArray, List.nil_append, List.cons_append, List.set_cons_succ, List.set_cons_zero]
  go_wp2_with (refine armSt rfl 60 (.tmp 0) (.tmp 16) rfl p zBr rfl rfl (HP.out.alloc _) (by kernel_rfl) (by rw [hl]; rfl) (by intro u hu; simp only [zBr, List.mem_cons, List.not_mem_nil, or_false] at hu; rcases hu with rfl | rfl | rfl | rfl | rfl | rfl | rfl <;> rfl) ?_; intro w3 og3 hz3 hb3; (have c3 : w3.cell? ⟨q, 0, none⟩ = some ok0 := og3.cell (q1 _) (by show q ≠ p; omega)); (have f3 : w3.frozen? ⟨q, 0, none⟩ = false := (World.frozen?_of_block (w := w.alloc _) (og3.block q (by simp; omega) (fun e => by cases e; omega))).trans (q2 _)); (have HB3 := Lib.hid hb3); (have HOG3 := Lib.hid og3); clear hb3 og3)
  refine ⟨rfl, _, rfl, .tuple #[], by simp [results, Try.results62, go_sem], rfl, rfl, HB3.out.far (by show p ≠ q; omega) _, ?_, fun w0 h0 hs => ?_⟩
  · simp [go_sem, c3]
  · exact Og.qt (((Og.refl q w3).setCell (.inl rfl) _)) (HOG3.out.qt (h0.alloc _) hs) (by omega)

theorem results_cc {P : Program} {fn : Func} {p q : Tmp} {ty ty2 : TypeId} (h : fn.results = #[.cell p ty, .cell q ty2]) (tmps : Array Value) (w : World) (g k : Nat) {t : TypeId} {cs : List Value} (d : TypeDesc)
    (hp : tmps.getD p undef = .pointer (some ⟨g, 0, none⟩)) (hg : Blk w g t cs) (rv : Value) (hq : tmps.getD q undef = .pointer (some ⟨k, 0, none⟩)) (hk : (loadVar ty2 ⟨k, 0, none⟩).run P w = .ok rv w)
    (hu : P.underlying ty = some d) (hd : (match d with | .struct _ | .array _ _ => true | _ => false) = true) (hi : (P.info? ty).map (·.size) = some cs.length) :
    (results fn tmps).run P w = .ok (.tuple #[.agg cs.toArray, rv]) w := by
  have hp' : tmps[p]?.getD undef = .pointer (some ⟨g, 0, none⟩) := by simpa using hp
  have hq' : tmps[q]?.getD undef = .pointer (some ⟨k, 0, none⟩) := by simpa using hq
  simp [results, h, hp', hq', asAddr, run_loadVar_row w g t ty cs.toArray (0, 0) d hg hu hd (by simpa using hi), hk]
/-- A term's branch, if it is in order. -/
def opn (l : List Nd) : Option Tr := (par l.length l).bind fun x => if x.2 = [] then some x.1 else none
set_option maxRecDepth 100000 in
set_option maxHeartbeats 1000000 in
theorem open_any (l : List Nd) (v : Value) (lb : Nat → Prop) (w : World) (hm : l.length ≤ 1000000) (h : Lies w lb v l) (hlb : ∀ k, lb k → k < w.heap.size) :
    Calls Try.prog 42 #[.agg #[v]] w fun e w' => Qt w w' ∧ (opn l = none ∧ (∃ cs : List Value, cs.length = 7 ∧ (∀ u ∈ cs, u.oneCell' = true) ∧ e = .returned (.tuple #[.agg cs.toArray, .bool false])) ∨ ∃ (t : Tr) (cs : List Value), opn l = some t ∧ e = .returned (.tuple #[.agg cs.toArray, .bool true]) ∧ Br w' (fun k => lb k ∨ w.heap.size ≤ k) cs t) := by
  have hmf : ∀ (fn : Fn) (first cap : Array Value) (w : World), (Instr.makeFunc fn first cap).run Try.prog w = .ok (.func fn first cap) w := fun _ _ _ _ => rfl
  obtain ⟨A, c, rfl⟩ := h.form
  obtain ⟨gs, hgs⟩ : ∃ fs, Try.prog.underlying 60 = some (.struct fs) := ⟨_, Try.underlying60⟩
  have HH := Lib.hid h
  have HLB := Lib.hid hlb
  clear h hlb
  go_enter_defers Try.func42, Try.ntmps42
  go_wp2_with fail
  have hb0 : Blk (((w.alloc (.cells #[.slice A l.length c] 24)).alloc (.cells #[.int .i64 0, .int .i64 0, .int .u64 0, .string ⟨#[]⟩, .int .i64 0, .slice none 0 0, .slice none 0 0] 60)).alloc (.cells #[.bool false] 4)) (w.heap.size + 1) 60 zBr := by
    have h1 := heap_alloc_new (w.alloc (.cells #[.slice A l.length c] 24)) (.cells #[.int .i64 0, .int .i64 0, .int .u64 0, .string ⟨#[]⟩, .int .i64 0, .slice none 0 0, .slice none 0 0] 60)
    have h2 : (w.alloc (.cells #[.slice A l.length c] 24)).heap.size = w.heap.size + 1 := by simp
    rw [h2] at h1
    exact (show Blk _ (w.heap.size + 1) 60 zBr from h1).alloc _
  have hc0 : (((w.alloc (.cells #[.slice A l.length c] 24)).alloc (.cells #[.int .i64 0, .int .i64 0, .int .u64 0, .string ⟨#[]⟩, .int .i64 0, .slice none 0 0, .slice none 0 0] 60)).alloc (.cells #[.bool false] 4)).cell? ⟨w.heap.size + 1 + 1, 0, none⟩ = some (.bool false) := by simp [go_sem]
  have hf0 : (((w.alloc (.cells #[.slice A l.length c] 24)).alloc (.cells #[.int .i64 0, .int .i64 0, .int .u64 0, .string ⟨#[]⟩, .int .i64 0, .slice none 0 0, .slice none 0 0] 60)).alloc (.cells #[.bool false] 4)).frozen? ⟨w.heap.size + 1 + 1, 0, none⟩ = false := by simp [go_sem]
  have hq0 : Qt w (((w.alloc (.cells #[.slice A l.length c] 24)).alloc (.cells #[.int .i64 0, .int .i64 0, .int .u64 0, .string ⟨#[]⟩, .int .i64 0, .slice none 0 0, .slice none 0 0] 60)).alloc (.cells #[.bool false] 4)) := (((Qt.refl w).alloc _).alloc _).alloc _
  generalize (((w.alloc (.cells #[.slice A l.length c] 24)).alloc (.cells #[.int .i64 0, .int .i64 0, .int .u64 0, .string ⟨#[]⟩, .int .i64 0, .slice none 0 0, .slice none 0 0] 60)).alloc (.cells #[.bool false] 4)) = w3 at hb0 hc0 hf0 hq0 ⊢
  have hG := grow_any l.length l _ lb w3 (Nat.le_refl _) hm (HH.out.qt hq0) (fun k hk => Nat.lt_of_lt_of_le (HLB.out k hk) hq0.size)
  have hs3 : w.heap.size + 1 + 1 < w3.heap.size := blk_of_cell hc0
  refine hG.mono ?_
  clear hG
  rintro e w4 ⟨q4, ⟨hn, rfl⟩ | ⟨t, r, cs, rv, hn, rfl, hbr, hl2⟩⟩
  · have hb4 := hb0.qt q4
    have hc4 : w4.cell? ⟨w.heap.size + 1 + 1, 0, none⟩ = some (.bool false) := (q4.cell (p := ⟨w.heap.size + 1 + 1, 0, none⟩) hs3).trans hc0
    have hf4 : w4.frozen? ⟨w.heap.size + 1 + 1, 0, none⟩ = false := (World.frozen?_of_block (w := w3) (q4.block _ hs3)).trans hf0
    refine leaves_cons (f := 62) (args := #[.pointer (some ⟨w.heap.size + 1, 0, none⟩), .pointer (some ⟨w.heap.size + 1 + 1, 0, none⟩)]) (by simp) (by simp [go_sem]) ?_
    refine (catch_none (w.heap.size + 1) (w.heap.size + 1 + 1) [] zBr (.bool false) w4 hb4 rfl hc4 hf4 (by omega)).mono ?_
    rintro e u' w5 ⟨rfl, rfl, hb5, hc5, hq5⟩
    have hr := results_cc (P := Try.prog) (fn := Try.f42) (p := 2) (q := 3) (ty := 60) (ty2 := 4) rfl
    simp [Leaves, settle]
    have hopn : opn l = none := by unfold opn; rw [hn]; rfl
    exact ⟨_, hr _ w5 (w.heap.size + 1) (w.heap.size + 1 + 1) (.struct gs) rfl hb5 (.bool false) rfl (by simp [go_sem, hc5]) hgs rfl (by kernel_rfl), hq5 w (hq0.trans q4) (by omega), .inl ⟨hopn, zBr, rfl, zBr_one, rfl⟩⟩
  · have hb4 := hb0.qt q4
    have hc4 : w4.cell? ⟨w.heap.size + 1 + 1, 0, none⟩ = some (.bool false) := (q4.cell (p := ⟨w.heap.size + 1 + 1, 0, none⟩) hs3).trans hc0
    have hf4 : w4.frozen? ⟨w.heap.size + 1 + 1, 0, none⟩ = false := (World.frozen?_of_block (w := w3) (q4.block _ hs3)).trans hf0
    have hq4 := hq0.trans q4
    have hcl := hbr.len
    have hone := hbr.one
    have hbr0 : Br w4 (fun k => lb k ∨ (w.heap.size ≤ k ∧ k ≠ w.heap.size + 1 ∧ k ≠ w.heap.size + 1 + 1)) cs t := hbr.mono fun k hk => hk.imp id fun h => ⟨by omega, by omega, by omega⟩
    obtain ⟨ra, rc, rfl⟩ := hl2.form
    have HB4 := Lib.hid hb4
    have HBR := Lib.hid hbr0
    have HN := Lib.hid hn
    have HQ4 := Lib.hid hq4
    have HONE := Lib.hid hone
    have HGS := Lib.hid hgs
    have h1w : w.heap.size + 1 < w4.heap.size := hb4.lt
    have h2w : w.heap.size + 1 + 1 < w4.heap.size := blk_of_cell hc4
    clear hb0 hc0 hf0 hq0 q4 hb4 hq4 hbr hbr0 hl2 hn hone hgs
    cases r with
    | nil =>
      go_wp2_with (first
        | (refine armSt rfl 60 (.tmp 2) (.tmp 10) rfl (w.heap.size + 1) cs rfl rfl HB4.out (by rw [hcl]; kernel_rfl) (by rw [hcl]; rfl) HONE.out ?_; intro w5 og5 hz5 hb5; (have HB5 := Lib.hid hb5); (have HOG5 := Lib.hid og5); clear hb5 og5)
        | (refine armLd rfl 60 (.tmp 2) rfl (w.heap.size + 1) rfl HB5.out (.struct gs) HGS.out rfl (by rw [hcl]; kernel_rfl) ?_)
        | (refine armSt rfl 60 (.tmp 2) (.tmp 12) rfl (w.heap.size + 1) cs rfl rfl HB5.out (by rw [hcl]; kernel_rfl) (by rw [hcl]) HONE.out ?_; intro w6 og6 hz6 hb6; (have og46 := HOG5.out.trans og6); (have c6 : w6.cell? ⟨w.heap.size + 1 + 1, 0, none⟩ = some (.bool false) := og46.cell hc4 (by show w.heap.size + 1 + 1 ≠ w.heap.size + 1; omega)); (have f6 : w6.frozen? ⟨w.heap.size + 1 + 1, 0, none⟩ = false := (World.frozen?_of_block (w := w4) (og46.block _ h2w (fun e => by have := Option.some.inj e; simp only at this; omega))).trans hf4); (have HB6 := Lib.hid hb6); (have HOG6 := Lib.hid og46); clear hb6 og6 og46))
      have hopn : opn l = some t := by unfold opn; rw [HN.out]; rfl
      refine leaves_cons (f := 62) (args := #[.pointer (some ⟨w.heap.size + 1, 0, none⟩), .pointer (some ⟨w.heap.size + 1 + 1, 0, none⟩)]) (by simp) (by simp [go_sem]) ?_
      refine (catch_idle _ _ _).mono ?_
      rintro e u' w7 ⟨rfl, rfl, hw7⟩
      have hc7 : w7.cell? ⟨w.heap.size + 1 + 1, 0, none⟩ = some (.bool true) := by rw [hw7]; simp [go_sem, c6]
      have HB7 := Lib.hid (show Blk w7 (w.heap.size + 1) 60 cs by rw [hw7]; exact HB6.out.far (by show w.heap.size + 1 ≠ w.heap.size + 1 + 1; omega) _)
      have og7 : Og (w.heap.size + 1 + 1) w6 w7 := by rw [hw7]; exact (Og.refl _ w6).setCell (.inl rfl) _
      have hq7 : Qt w w7 := og7.qt (HOG6.out.qt HQ4.out (by omega)) (by omega)
      have hbr7 : Br w7 (fun k => lb k ∨ w.heap.size ≤ k) cs t := by
        refine (HBR.out.move fun k hk ho => ?_).mono fun k hk => hk.imp id fun h => h.1
        have hk1 : k ≠ w.heap.size + 1 := by
          rcases ho with ho | ho
          · have := HLB.out k ho; omega
          · exact ho.2.1
        have hk2 : k ≠ w.heap.size + 1 + 1 := by
          rcases ho with ho | ho
          · have := HLB.out k ho; omega
          · exact ho.2.2
        rw [og7.block k (Nat.lt_of_lt_of_le hk HOG6.out.size) (fun e => hk2 (Option.some.inj e)), HOG6.out.block k hk (fun e => hk1 (Option.some.inj e))]
      have hr := results_cc (P := Try.prog) (fn := Try.f42) (p := 2) (q := 3) (ty := 60) (ty2 := 4) rfl
      simp [Leaves, settle]
      exact ⟨_, hr _ w7 (w.heap.size + 1) (w.heap.size + 1 + 1) (.struct gs) rfl HB7.out (.bool true) rfl (by simp [go_sem, hc7]) HGS.out rfl (by rw [hcl]; kernel_rfl), hq7, .inr ⟨t, hopn, cs, rfl, hbr7⟩⟩
    | cons m r =>
      go_wp2_with (first
        | (refine armSt rfl 60 (.tmp 2) (.tmp 10) rfl (w.heap.size + 1) cs rfl rfl HB4.out (by rw [hcl]; kernel_rfl) (by rw [hcl]; rfl) HONE.out ?_; intro w5 og5 hz5 hb5; (have HB5 := Lib.hid hb5); (have HOG5 := Lib.hid og5); clear hb5 og5)
        | (refine armLd rfl 60 (.tmp 2) rfl (w.heap.size + 1) rfl HB5.out (.struct gs) HGS.out rfl (by rw [hcl]; kernel_rfl) ?_)
        | (refine armSt rfl 60 (.tmp 2) (.tmp 12) rfl (w.heap.size + 1) cs rfl rfl HB5.out (by rw [hcl]; kernel_rfl) (by rw [hcl]) HONE.out ?_; intro w6 og6 hz6 hb6; (have og46 := HOG5.out.trans og6); (have c6 : w6.cell? ⟨w.heap.size + 1 + 1, 0, none⟩ = some (.bool false) := og46.cell hc4 (by show w.heap.size + 1 + 1 ≠ w.heap.size + 1; omega)); (have f6 : w6.frozen? ⟨w.heap.size + 1 + 1, 0, none⟩ = false := (World.frozen?_of_block (w := w4) (og46.block _ h2w (fun e => by have := Option.some.inj e; simp only at this; omega))).trans hf4); (have HB6 := Lib.hid hb6); (have HOG6 := Lib.hid og46); clear hb6 og6 og46))
      have hopn : opn l = none := by unfold opn; rw [HN.out]; rfl
      refine leaves_cons (f := 62) (args := #[.pointer (some ⟨w.heap.size + 1, 0, none⟩), .pointer (some ⟨w.heap.size + 1 + 1, 0, none⟩)]) (by simp) (by simp [go_sem]) ?_
      refine (catch_idle _ _ _).mono ?_
      rintro e u' w7 ⟨rfl, rfl, hw7⟩
      have hc7 : w7.cell? ⟨w.heap.size + 1 + 1, 0, none⟩ = some (.bool false) := by rw [hw7]; simp [go_sem, c6]; omega
      have HB7 := Lib.hid (show Blk w7 (w.heap.size + 1) 60 cs by rw [hw7]; exact HB6.out.far (by show w.heap.size + 1 ≠ w.heap.size + 1 + 1; omega) _)
      have og7 : Og (w.heap.size + 1 + 1) w6 w7 := by rw [hw7]; exact (Og.refl _ w6).setCell (.inl rfl) _
      have hq7 : Qt w w7 := og7.qt (HOG6.out.qt HQ4.out (by omega)) (by omega)
      have hbr7 : Br w7 (fun k => lb k ∨ w.heap.size ≤ k) cs t := by
        refine (HBR.out.move fun k hk ho => ?_).mono fun k hk => hk.imp id fun h => h.1
        have hk1 : k ≠ w.heap.size + 1 := by
          rcases ho with ho | ho
          · have := HLB.out k ho; omega
          · exact ho.2.1
        have hk2 : k ≠ w.heap.size + 1 + 1 := by
          rcases ho with ho | ho
          · have := HLB.out k ho; omega
          · exact ho.2.2
        rw [og7.block k (Nat.lt_of_lt_of_le hk HOG6.out.size) (fun e => hk2 (Option.some.inj e)), HOG6.out.block k hk (fun e => hk1 (Option.some.inj e))]
      have hr := results_cc (P := Try.prog) (fn := Try.f42) (p := 2) (q := 3) (ty := 60) (ty2 := 4) rfl
      simp [Leaves, settle]
      exact ⟨_, hr _ w7 (w.heap.size + 1) (w.heap.size + 1 + 1) (.struct gs) rfl HB7.out (.bool false) rfl (by simp [go_sem, hc7]) HGS.out rfl (by rw [hcl]; kernel_rfl), hq7, .inl ⟨hopn, cs, hcl, HONE.out, rfl⟩⟩
end Go.Proofs.Ytipgpnkdgofdeaa.Tm
