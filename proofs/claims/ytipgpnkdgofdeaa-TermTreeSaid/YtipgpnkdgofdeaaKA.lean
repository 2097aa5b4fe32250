import Derived.Test.YtipgpnkdgofdeaaJB
/-! A branch as a term: Clone, term; by hand. -/
namespace Go.Proofs.Ytipgpnkdgofdeaa.Tm
open Go.RowKit
set_option linter.unusedVariables false
set_option linter.unusedSimpArgs false

theorem OQ.empty5 {w : World} {base : Nat} {t : TypeId} (hb : base ≤ w.heap.size) : OQ (w.alloc (.cells #[] t)) base 5 (.slice (some ⟨w.heap.size, 0, none⟩) 0 0) 0 [] :=
  ⟨rfl, .inr ⟨w.heap.size, 0, 0, rfl, hb, by simp, Nat.le_refl _, by simp, fun j hj => absurd hj (by omega), fun j u hu => by simp at hu⟩⟩
set_option maxRecDepth 100000 in
set_option maxHeartbeats 1000000 in
theorem cloneNd_any (l : List Nd) (A : Option Addr) (c : Nat) (ok : Nat → Prop) (w : World) (hl : l.length ≤ 1000000) (h : Lies w ok (.slice A l.length c) l) :
    Calls Try.prog 71 #[.slice A l.length c] w fun e w' => ∃ A' c', e = .returned (.slice A' l.length c') ∧ Lies w' (fun k => w.heap.size ≤ k ∧ k < w'.heap.size) (.slice A' l.length c') l ∧ Qt w w' := by
  obtain ⟨i0, z0, hi0, hz0, hz1, hz2, hz3⟩ := infoNd
  have HI0 := Lib.hid hi0
  have HZ0 := Lib.hid hz0
  have HZ1 := Lib.hid hz1
  have HZ2 := Lib.hid hz2
  have HZ3 := Lib.hid hz3
  have HV := Lib.hid h.rd
  have hcs : (A = none ∧ l = []) ∨ ∃ ad, A = some ad := by
    cases A with
    | none =>
      refine .inl ⟨rfl, ?_⟩
      obtain ⟨A', c', e, _, h⟩ := h
      cases e
      cases l with
      | nil => rfl
      | cons n l => obtain ⟨b, off, e, _⟩ := h (by simp); cases e
    | some ad => exact .inr ⟨ad, rfl⟩
  clear h hi0 hz0 hz1 hz2 hz3
  rcases hcs with ⟨rfl, rfl⟩ | ⟨ad, rfl⟩
  · have HE : ∀ w, (binOp .eql 22 (.slice none 0 c) (.slice none 0 0)).run Try.prog w = .ok (.bool true) w := fun w => by kernel_rfl
    go_enter Try.func71, Try.ntmps71
    go_wp2
    go_ret
    exact ⟨none, 0, rfl, ⟨none, 0, rfl, Nat.le_refl _, fun h => absurd rfl h⟩, Qt.refl _⟩
  · have HE : ∀ w, (binOp .eql 22 (.slice (some ad) l.length c) (.slice none 0 0)).run Try.prog w = .ok (.bool false) w := fun w => by kernel_rfl
    go_enter Try.func71, Try.ntmps71
    go_wp2_with (at_builtin; go_must (refine wp_appQ rfl (.tmp 5) (.tmp 6) 22 22 rfl w.heap.size 32 i0 z0 5 48 (by kernel_rfl) HI0.out HZ0.out HZ1.out HZ2.out HZ3.out _ 0 [] rfl (OQ.empty5 (Nat.le_refl _)) _ l.length (ndcs l) rfl (Src.ofRd (e' := 32) (by kernel_rfl) (HV.out.below ((Qt.refl w).alloc _)) (ndcs_len l) (by decide) (ndcs_one l)) (by unfold maxLen; omega) (by omega) (by simp) ?_); intro v2 w2 h1 h2 h3; rw [Nat.zero_add, List.nil_append] at h1; (have hb2 := below_app (hb := (Below.refl w.heap.size w).alloc (Nat.le_refl _) _) (OQ.empty5 (Nat.le_refl _)) h2); obtain ⟨a2, c2, rfl⟩ := h1.slice; (have H1 := Lib.hid h1); (have HB2 := Lib.hid hb2); clear h1 h2 h3 hb2)
    go_ret
    exact ⟨a2, c2, rfl, OQ.lies H1.out, HB2.out⟩
set_option maxRecDepth 100000 in
set_option maxHeartbeats 1000000 in
/-- A branch as a term. -/
theorem termB_any (t : Tr) (cs : List Value) (ok : Nat → Prop) (w : World) (hm : t.flat.length ≤ 1000000) (hbr : Br w ok cs t) (hok : ∀ k, ok k → k < w.heap.size) :
    Calls Try.prog 54 #[.agg cs.toArray] w fun e w' => ∃ A' c', e = .returned (.agg #[.slice A' t.flat.length c']) ∧ Lies w' (fun k => w.heap.size ≤ k ∧ k < w'.heap.size) (.slice A' t.flat.length c') t.flat ∧ Qt w w' := by
  obtain ⟨ts, hts⟩ : ∃ fs, Try.prog.underlying 24 = some (.struct fs) := ⟨_, Try.underlying24⟩
  obtain ⟨n, ks⟩ := t
  obtain ⟨A, c, avA, avc, cf, hcs, h7, h1, h5, hc, hK, hli⟩ := hbr.parts
  obtain ⟨l, hl⟩ : ∃ l, l = (Tr.mk n ks).flat := ⟨_, rfl⟩
  rw [← hl] at hcs hli hm ⊢
  have b1 : Blk ((w.alloc (.cells cs.toArray 60)).alloc (.cells #[.slice none 0 0] 24)) w.heap.size 60 cs := (show Blk (w.alloc (.cells cs.toArray 60)) _ _ cs from heap_alloc_new w _).alloc _
  have c6 : ((w.alloc (.cells cs.toArray 60)).alloc (.cells #[.slice none 0 0] 24)).cell? ⟨w.heap.size, 6, none⟩ = some (.slice avA l.length avc) := (b1.cell 6).trans (by rw [hcs]; rfl)
  have hb4 : Blk ((w.alloc (.cells cs.toArray 60)).alloc (.cells #[.slice none 0 0] 24)) (w.heap.size + 1) 24 [.slice none 0 0] := by
    have h := heap_alloc_new (w.alloc (.cells cs.toArray 60)) (.cells #[.slice none 0 0] 24)
    rw [show (w.alloc (.cells cs.toArray 60)).heap.size = w.heap.size + 1 from by simp] at h
    exact h
  have q1 : Qt w ((w.alloc (.cells cs.toArray 60)).alloc (.cells #[.slice none 0 0] 24)) := ((Qt.refl w).alloc _).alloc _
  have HC := Lib.hid (cloneNd_any l avA avc ok _ hm (hli.qt q1))
  have HB4 := Lib.hid hb4
  have HQ1 := Lib.hid q1
  have HTS := Lib.hid hts
  clear hli hb4 q1 hts b1 hK h5 hbr hcs hl hok
  go_enter Try.func54, Try.ntmps54
  go_wp2_with (first
    | (go_at_call 71; refine HC.out.mono ?_; rintro e w2 ⟨A2, c2, rfl, li, q2⟩; (have HL2 := Lib.hid li); (have HQ2 := Lib.hid q2); (have HB2 := Lib.hid (HB4.out.qt q2)); clear li q2 HB4)
    | (refine armSt rfl 24 (.tmp 2) (.tmp 6) rfl (w.heap.size + 1) [.slice A2 l.length c2] rfl rfl HB2.out (by kernel_rfl) rfl (by intro u hu; rw [List.mem_singleton.1 hu]; rfl) ?_; intro w7 og7 hz7 hb7; (have HB7 := Lib.hid hb7); (have HOG7 := Lib.hid og7); (have HZ7 := Lib.hid hz7); clear hb7 og7 hz7))
  refine bodyPost_ret (v := .agg #[.slice A2 l.length c2]) (results_c1 (cs := [.slice A2 l.length c2]) rfl _ _ (w.heap.size + 1) (.struct ts) rfl HB7.out HTS.out rfl (by kernel_rfl)) rfl ?_
  have hsz : ((w.alloc (.cells cs.toArray 60)).alloc (.cells #[.slice none 0 0] 24)).heap.size = w.heap.size + 2 := by simp
  refine ⟨A2, c2, rfl, ?_, HOG7.out.qt (HQ1.out.trans HQ2.out) (by omega)⟩
  refine ((HL2.out.move (w' := w7) fun k hk ho => HOG7.out.block k hk (fun e => ?_))).mono fun k hk => ?_
  · rw [hsz] at ho; cases e; omega
  · rw [hsz] at hk; exact ⟨by omega, by rw [← HZ7.out]; exact hk.2⟩
end Go.Proofs.Ytipgpnkdgofdeaa.Tm
