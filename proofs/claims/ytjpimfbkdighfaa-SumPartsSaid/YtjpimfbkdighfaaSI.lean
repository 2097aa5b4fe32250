import Derived.Test.YtjpimfbkdighfaaSH
import Derived.Test.YtjpimfbkdighfaaY
namespace Go.Proofs.Ytjpimfbkdighfaa
open Go.RowKit

theorem bitLen_log2 {m : Nat} (h0 : 0 < m) (h : m < 18446744073709551616) : Lib.bitLen m = Nat.log2 m + 1 := by
  have h1 := Nat.log2_self_le (n := m) (by omega)
  have h2 := Nat.lt_log2_self (n := m)
  rw [Lib.bitLen_shift (Nat.log2 m) m h1 h]
  have : m / 2 ^ Nat.log2 m = 1 := by
    apply Nat.div_eq_of_lt_le
    · omega
    · rw [Nat.pow_succ] at h2; omega
  rw [this]
  rfl
theorem sz32 (l : List Nat) (hl : l.length = 32) : ((Try.prog).info? 27).map (·.size) = some (u8s l).toArray.size := by rw [List.size_toArray, u8s, List.length_map, hl]; kernel_rfl
theorem sz32z (l : List Nat) (hl : l.length = 32) : (u8s (List.replicate 32 0)).toArray.size = (u8s l).toArray.size := by rw [List.size_toArray, List.size_toArray, u8s, u8s, List.length_map, List.length_map, hl, List.length_replicate]
theorem Own1.res (w : World) : Own1 w w.heap.size 27 (u8s (List.replicate 32 0)) (w.alloc (.cells (u8s (List.replicate 32 0)).toArray 27)) := ⟨heap_alloc_new w _, (Below.refl _ _).alloc (Nat.le_refl _) _⟩
theorem parts2 {w : World} {t : TypeId} {g : Nat} {v1 v2 : Value} {x1 x2 : List Nat} (hg : g = w.heap.size) (h1 : Rd w v1 x1.length (u8s x1)) (h2 : Rd w v2 x2.length (u8s x2))
    (l1 : ∀ x ∈ x1, x < 256) (l2 : ∀ x ∈ x2, x < 256) : Parts (w.alloc (.cells #[v1, v2] t)) (.slice (some ⟨g, 0, none⟩) 2 2) [x1, x2] := by
  refine ⟨⟨[v1, v2], rdn_new hg, rfl, fun j x hx => ?_⟩, fun x hx => ?_⟩
  · match j, hx with
    | 0, hx => cases hx; exact ⟨_, rfl, h1.al _⟩
    | 1, hx => cases hx; exact ⟨_, rfl, h2.al _⟩
  · simp at hx
    rcases hx with rfl | rfl
    · exact l1
    · exact l2

set_option maxRecDepth 100000 in
set_option maxHeartbeats 1000000 in
theorem root0_any (a : Option Addr) (c : Nat) (w : World) : Calls Try.prog 14 #[.slice a 0 c] w fun e w' => e = .returned (.agg (u8s (root [])).toArray) ∧ Qt w w' := by
  rw [root_nil]
  have hc : ∀ u, u = (w.alloc (.cells (u8s (List.replicate 32 0)).toArray 27)) → Calls Try.prog 10 #[.slice (some ⟨w.heap.size + 1 + 1, 0, none⟩) 1 1] ((u.alloc (.cells #[.int .u8 0] 5)).alloc (.cells #[.slice (some ⟨w.heap.size + 1, 0, none⟩) 1 1] 38)) fun e w' => e = .returned (.agg (u8s (sha [0])).toArray) ∧ Own1 w w.heap.size 27 (u8s (List.replicate 32 0)) w' := by
    rintro u rfl
    refine (of_any [[0]] _ _ (parts_one (by simp) (rdn_new (xs := u8s [0])) (by decide)) (by simp) (by simp)).mono ?_
    rintro e w' ⟨rfl, q⟩
    exact ⟨by simp, (((Own1.res w).al _).al _).below q⟩
  have HC := Lib.hid (hc _ rfl)
  have HI := Lib.hid (sz32 (sha [0]) (sha_len _))
  have HOZ := Lib.hid (sz32z (sha [0]) (sha_len _))
  have H1 := Lib.hid (u8s_one (sha [0]))
  clear hc
  generalize sha [0] = S at *
  have hq : (0 == 0) = true := rfl
  go_enter Try.func14, Try.ntmps14
  go_wp2_with (first
    | (go_at_call 10; refine HC.out.mono ?_; rintro e w2 ⟨rfl, q⟩; (have HW2 := Lib.hid q); clear q)
    | (refine wpList_store_row rfl 27 (.tmp 2) (.tmp 12) rfl w.heap.size (u8s S).toArray rfl rfl 27 _ HW2.out.blk HI.out HOZ.out H1.out ?_))
  refine bodyPost_ret (v := .agg (u8s S).toArray) (results_cell_row rfl _ _ w.heap.size _ _ _ (.array 32 5) rfl (setRow_heap _ _ _ _ _ _ HW2.out.blk) (by kernel_rfl) rfl HI.out) rfl ⟨rfl, ?_⟩
  exact below_setRow HW2.out.bel (Nat.le_refl _) _

set_option maxRecDepth 100000 in
set_option maxHeartbeats 1000000 in
theorem root1_any (h : List Nat) (v : Value) (w : World) (hv : Hs w v [h]) : Calls Try.prog 14 #[v] w fun e w' => e = .returned (.agg (u8s (root [h])).toArray) ∧ Qt w w' := by
  rw [root_one]
  have hl := hv.len h (by simp)
  have hlt := hv.lt h (by simp)
  obtain ⟨b, off, c, rfl, hc, hrd⟩ : ∃ b off c, v = .slice (some ⟨b, off, none⟩) 1 c ∧ 1 ≤ c ∧ Rd w (.slice (some ⟨b, off, none⟩) 32 32) 32 (u8s h) := by
    obtain ⟨a, c, rfl, hc, h0 | ⟨b, off, rfl, hx⟩⟩ := hv.rd
    · exact absurd (congrArg List.length h0) (by simp [u8s, hl])
    · exact ⟨b, off, c, rfl, hc, _, _, rfl, Nat.le_refl _, .inr ⟨b, off, rfl, by simpa using hx⟩⟩
  have hc2 : ∀ u, u = (w.alloc (.cells (u8s (List.replicate 32 0)).toArray 27)) → Calls Try.prog 10 #[.slice (some ⟨w.heap.size + 1 + 1, 0, none⟩) 2 2] ((u.alloc (.cells #[.int .u8 1] 5)).alloc (.cells #[.slice (some ⟨w.heap.size + 1, 0, none⟩) 1 1, .slice (some ⟨b, off, none⟩) 32 32] 38)) fun e w' => e = .returned (.agg (u8s (sha (1 :: h))).toArray) ∧ Own1 w w.heap.size 27 (u8s (List.replicate 32 0)) w' := by
    rintro u rfl
    refine (of_any [[1], h] _ _ (parts2 (by simp) (rdn_new (xs := u8s [1])) (by rw [hl]; exact (hrd.al _).al _) (by decide) hlt) (by simp) (by simp [hl])).mono ?_
    rintro e w' ⟨rfl, q⟩
    exact ⟨by simp, (((Own1.res w).al _).al _).below q⟩
  have HC := Lib.hid (hc2 _ rfl)
  have HI := Lib.hid (sz32 (sha (1 :: h)) (sha_len _))
  have HOZ := Lib.hid (sz32z (sha (1 :: h)) (sha_len _))
  have H1 := Lib.hid (u8s_one (sha (1 :: h)))
  clear hc2 hv hrd hl hlt
  generalize sha (1 :: h) = S at *
  have hq : ((1 : Int) == 0) = false := rfl
  have hq2 : ((1 : Int) == 1) = true := rfl
  go_enter Try.func14, Try.ntmps14
  go_wp2_with (first
    | (go_at_call 10; refine HC.out.mono ?_; rintro e w2 ⟨rfl, q⟩; (have HW2 := Lib.hid q); clear q)
    | (refine wpList_store_row rfl 27 (.tmp 2) (.tmp 20) rfl w.heap.size (u8s S).toArray rfl rfl 27 _ HW2.out.blk HI.out HOZ.out H1.out ?_))
  refine bodyPost_ret (v := .agg (u8s S).toArray) (results_cell_row rfl _ _ w.heap.size _ _ _ (.array 32 5) rfl (setRow_heap _ _ _ _ _ _ HW2.out.blk) (by kernel_rfl) rfl HI.out) rfl ⟨rfl, ?_⟩
  exact below_setRow HW2.out.bel (Nat.le_refl _) _
end Go.Proofs.Ytjpimfbkdighfaa
