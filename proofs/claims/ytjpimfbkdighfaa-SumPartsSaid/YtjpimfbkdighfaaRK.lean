import Derived.Test.YtjpimfbkdighfaaRI
namespace Go.Proofs.Ytjpimfbkdighfaa
open Go.RowKit

set_option maxRecDepth 100000 in
set_option maxHeartbeats 1000000 in
theorem root0R_any (a : Option Addr) (c : Nat) (w : World) : Calls Try.prog 15 #[.slice a 0 c] w fun e w' => e = .returned (.agg (u8s (root [])).toArray) ∧ Qt w w' := by
  rw [root_nil]
  have hc : ∀ u, u = (w.alloc (.cells (u8s (List.replicate 32 0)).toArray 27)) → Calls Try.prog 17 #[.slice (some ⟨w.heap.size + 1, 0, none⟩) 1 1] (u.alloc (.cells #[.int .u8 0] 5)) fun e w' => e = .returned (.agg (u8s (sha [0])).toArray) ∧ Own1 w w.heap.size 27 (u8s (List.replicate 32 0)) w' := by
    rintro u rfl
    refine (oneR_any [0] _ _ (rdn_new (xs := u8s [0])) (by decide) (by simp)).mono ?_
    rintro e w' ⟨rfl, q⟩
    exact ⟨rfl, ((Own1.res w).al _).below q⟩
  have HC := Lib.hid (hc _ rfl)
  have HI := Lib.hid (sz32 (sha [0]) (sha_len _))
  have HOZ := Lib.hid (sz32z (sha [0]) (sha_len _))
  have H1 := Lib.hid (u8s_one (sha [0]))
  clear hc
  generalize sha [0] = S at *
  have hq : (0 == 0) = true := rfl
  go_enter Try.func15, Try.ntmps15
  go_wp2_with (first
    | (go_at_call 17; refine HC.out.mono ?_; rintro e w2 ⟨rfl, q⟩; (have HW2 := Lib.hid q); clear q)
    | (refine wpList_store_row rfl 27 (.tmp 2) (.tmp 11) rfl w.heap.size (u8s S).toArray rfl rfl 27 _ HW2.out.blk HI.out HOZ.out H1.out ?_))
  refine bodyPost_ret (v := .agg (u8s S).toArray) (results_cell_row rfl _ _ w.heap.size _ _ _ (.array 32 5) rfl (setRow_heap _ _ _ _ _ _ HW2.out.blk) (by kernel_rfl) rfl HI.out) rfl ⟨rfl, ?_⟩
  exact below_setRow HW2.out.bel (Nat.le_refl _) _

set_option maxRecDepth 100000 in
set_option maxHeartbeats 1000000 in
theorem root1R_any (h : List Nat) (v : Value) (w : World) (hv : Hs w v [h]) : Calls Try.prog 15 #[v] w fun e w' => e = .returned (.agg (u8s (root [h])).toArray) ∧ Qt w w' := by
  rw [root_one]
  have hl := hv.len h (by simp)
  have hlt := hv.lt h (by simp)
  obtain ⟨b, off, c, rfl, hc, hrd⟩ : ∃ b off c, v = .slice (some ⟨b, off, none⟩) 1 c ∧ 1 ≤ c ∧ Rd w (.slice (some ⟨b, off, none⟩) 32 32) 32 (u8s h) := by
    obtain ⟨a, c, rfl, hc, h0 | ⟨b, off, rfl, hx⟩⟩ := hv.rd
    · exact absurd (congrArg List.length h0) (by simp [u8s, hl])
    · exact ⟨b, off, c, rfl, hc, _, _, rfl, Nat.le_refl _, .inr ⟨b, off, rfl, by simpa using hx⟩⟩
  obtain ⟨i0, hi0, hz0, hz1, hz2⟩ := info_parts (P := Try.prog) (e := 5) (z := .int .u8 0) (size := 1) (bytes := 1) (by kernel_rfl)
  have HJ0 := Lib.hid hi0
  have HY0 := Lib.hid hz0
  have HY1 := Lib.hid hz1
  have HY2 := Lib.hid hz2
  clear hi0 hz0 hz1 hz2
  have ho0 : ∀ u, u = (w.alloc (.cells (u8s (List.replicate 32 0)).toArray 27)) → OQ (u.alloc (.cells #[.int .u8 1] 5)) (w.heap.size + 1) 1 (.slice (some ⟨w.heap.size + 1, 0, none⟩) 1 1) 1 (u8s [1]) := by
    rintro u rfl
    have := OQ.newRow (w := w.alloc (.cells (u8s (List.replicate 32 0)).toArray 27)) (base := w.heap.size + 1) (t := 5) (xs := u8s [1]) (n := 1) (by simp)
    rwa [show (w.alloc (.cells (u8s (List.replicate 32 0)).toArray 27)).heap.size = w.heap.size + 1 from by simp] at this
  have hsA : ∀ u, u = (w.alloc (.cells (u8s (List.replicate 32 0)).toArray 27)) → Src Try.prog 1 38 (.slice (some ⟨b, off, none⟩) 32 32) 32 (u8s h) (u.alloc (.cells #[.int .u8 1] 5)) := by
    rintro u rfl
    exact Src.ofRd (e' := 5) (by kernel_rfl) ((hrd.al _).al _) (by rw [u8s_len, hl]) (by decide) (u8s_one1 _)
  have hres : ∀ u, u = (w.alloc (.cells (u8s (List.replicate 32 0)).toArray 27)) → Own1 w w.heap.size 27 (u8s (List.replicate 32 0)) (u.alloc (.cells #[.int .u8 1] 5)) := by
    rintro u rfl
    exact (Own1.res w).al _
  have hone : ∀ v2 W2, OQ W2 (w.heap.size + 1) 1 v2 33 (u8s [1] ++ u8s h) → Calls Try.prog 17 #[v2] W2 fun e w' => e = .returned (.agg (u8s (sha (1 :: h))).toArray) ∧ Qt W2 w' := fun v2 W2 o2 => by
    refine oneR_any (1 :: h) v2 W2 ?_ (fun x hx => ?_) (by simp [hl])
    · have := Rd.of_OQ o2; rw [← u8s_app] at this; simpa [hl] using this
    · rcases List.mem_cons.1 hx with rfl | hx
      · decide
      · exact hlt x hx
  have HO0 := Lib.hid (ho0 _ rfl)
  have HSA := Lib.hid (hsA _ rfl)
  have HRES := Lib.hid (hres _ rfl)
  have HONE := Lib.hid hone
  have HI := Lib.hid (sz32 (sha (1 :: h)) (sha_len _))
  have HOZ := Lib.hid (sz32z (sha (1 :: h)) (sha_len _))
  have H1 := Lib.hid (u8s_one (sha (1 :: h)))
  clear ho0 hsA hres hone hv hrd hl hlt
  generalize sha (1 :: h) = S at *
  have hq : ((1 : Int) == 0) = false := rfl
  have hq2 : ((1 : Int) == 1) = true := rfl
  go_enter Try.func15, Try.ntmps15
  go_wp2_with (first
    | (at_builtin; go_must (refine wp_appQ rfl (.tmp 14) (.tmp 17) 38 38 rfl (w.heap.size + 1) 5 i0 (.int .u8 0) 1 1 (by kernel_rfl) HJ0.out HY0.out HY1.out HY2.out rfl _ 1 _ rfl HO0.out _ 32 (u8s h) rfl HSA.out (by unfold maxLen; omega) (by omega) (by simp) ?_); intro v2 w2 h1 h2 h3; (have H2 := Lib.hid h1); (have HR2 := Lib.hid (Own1.app1 HRES.out HO0.out h2)); clear h1 h2 h3)
    | (go_at_call 17; refine (HONE.out _ _ H2.out).mono ?_; rintro e w3 ⟨rfl, q⟩; (have HW2 := Lib.hid (HR2.out.below q)); clear q)
    | (refine wpList_store_row rfl 27 (.tmp 2) (.tmp 19) rfl w.heap.size (u8s S).toArray rfl rfl 27 _ HW2.out.blk HI.out HOZ.out H1.out ?_))
  refine bodyPost_ret (v := .agg (u8s S).toArray) (results_cell_row rfl _ _ w.heap.size _ _ _ (.array 32 5) rfl (setRow_heap _ _ _ _ _ _ HW2.out.blk) (by kernel_rfl) rfl HI.out) rfl ⟨rfl, ?_⟩
  exact below_setRow HW2.out.bel (Nat.le_refl _) _

theorem rootR_to (n : Nat) : ∀ (l : List (List Nat)) (v : Value) (w : World), l.length ≤ n → l.length ≤ 2000 → Hs w v l →
    Calls Try.prog 15 #[v] w fun e w' => e = .returned (.agg (u8s (root l)).toArray) ∧ Qt w w' := by
  induction n with
  | zero =>
    intro l v w hn _ hv
    have h0 : l = [] := List.length_eq_zero_iff.1 (by omega)
    subst h0
    obtain ⟨a, c, rfl, _⟩ := hv.rd
    exact root0R_any a c w
  | succ n ih =>
    intro l v w hn h2 hv
    by_cases h0 : l.length = 0
    · exact ih l v w (by omega) h2 hv
    · by_cases h1 : l.length = 1
      · obtain ⟨h, rfl⟩ := List.length_eq_one_iff.1 h1
        exact root1R_any h v w hv
      · exact rootStepR l v w (by omega) h2 hv (fun l' v' w' hl' hv' => ih l' v' w' (by omega) (by omega) hv')
theorem rootR_any (l : List (List Nat)) (v : Value) (w : World) (h : l.length ≤ 2000) (hv : Hs w v l) :
    Calls Try.prog 15 #[v] w fun e w' => e = .returned (.agg (u8s (root l)).toArray) ∧ Qt w w' := rootR_to l.length l v w (Nat.le_refl _) h hv
end Go.Proofs.Ytjpimfbkdighfaa
