import Derived.Test.YtjpimfbkdighfaaSD
namespace Go.Proofs.Ytjpimfbkdighfaa
open Go.RowKit

def hb (H : List Nat) (j : Nat) : Nat := (H.getD (j / 4) 0 >>> (24 - j % 4 * 8)) % 256
def hTo (H : List Nat) (k : Nat) : List Nat := (List.range 32).map fun j => if j < k then hb H j else 0
/-- The 32 bytes of eight numbers. -/
def hashB (H : List Nat) : List Nat := (List.range 32).map (hb H)
theorem hTo_len (H : List Nat) (k : Nat) : (hTo H k).length = 32 := by simp [hTo]
theorem hTo_get (H : List Nat) (k : Nat) {j : Nat} (hj : j < 32) : (hTo H k)[j]? = some (if j < k then hb H j else 0) := by simp [hTo, hj]
theorem hTo_step (H : List Nat) {k : Nat} (hk : k < 32) : (hTo H k).set k (hb H k) = hTo H (k + 1) := by
  apply List.ext_getElem?
  intro j
  by_cases hj : j < 32
  · rw [List.getElem?_set, hTo_get _ _ hj, hTo_get _ _ hj, hTo_len]
    by_cases e : k = j
    · subst e; rw [if_pos rfl, if_pos hk, if_pos (by omega)]
    · rw [if_neg e]
      by_cases h2 : j < k
      · rw [if_pos h2, if_pos (by omega)]
      · rw [if_neg h2, if_neg (by omega)]
  · rw [List.getElem?_eq_none (by simp [hTo_len]; omega), List.getElem?_eq_none (by simp [hTo_len]; omega)]
theorem hTo_full (H : List Nat) : hTo H 32 = hashB H := by
  unfold hTo hashB
  apply List.map_congr_left
  intro j hj
  rw [if_pos (by simpa using hj)]
theorem hashB_len (H : List Nat) : (hashB H).length = 32 := by simp [hashB]
theorem hashB_lt (H : List Nat) : ∀ x ∈ hashB H, x < 256 := by
  intro x hx
  obtain ⟨j, _, rfl⟩ := List.mem_map.1 hx
  exact Nat.mod_lt _ (by decide)
theorem u8s_set {l : List Nat} {k x : Nat} : (u8s l).set k (.int .u8 (x : Int)) = u8s (l.set k x) := by simp [u8s]
theorem u8s_one (l : List Nat) : (u8s l).toArray.all (·.oneCell') = true := all_oneCell_toArray (fun v hv => by obtain ⟨j, _, rfl⟩ := List.mem_map.1 hv; rfl)

set_option maxRecDepth 100000 in
set_option maxHeartbeats 1000000 in
theorem hash_any (H : List Nat) (rest : List Value) (hH : H.length = 8) (hHb : ∀ x ∈ H, x < 4294967296) (w : World) (G : Nat) (t : TypeId) (hG : w.heap[G]? = some (.cells (H.map u32v ++ rest).toArray t (0, 0))) :
    Calls Try.prog 24 #[.pointer (some ⟨G, 0, none⟩)] w fun e w' => e = .returned (.agg (u8s (hashB H)).toArray) ∧ Qt w w' := by
  have hGs : G < w.heap.size := heap_lt hG
  have HG := Lib.hid hG; clear hG
  have HH := Lib.hid hH; clear hH
  have HHB := Lib.hid hHb; clear hHb
  have hi : ((Try.prog).info? 27).map (·.size) = some (u8s (hashB H)).toArray.size := by rw [List.size_toArray, u8s, List.length_map, hashB_len]; kernel_rfl
  have HI := Lib.hid hi; clear hi
  go_enter Try.func24, Try.ntmps24
  go_wp2_with fail
  have hO : Own1 w w.heap.size 27 (u8s (hTo H 0)) (w.alloc (.cells (u8s (hTo H 0)).toArray 27)) := ⟨heap_alloc_new w _, (Below.refl _ _).alloc (Nat.le_refl _) _⟩
  have HO := Lib.hid hO; clear hO
  go_loopw [4] (fun i wr => ∃ k : Nat, k ≤ 32 ∧ i = .int .i64 k ∧ Own1 w w.heap.size 27 (u8s (hTo H k)) wr) (fun i _ => 32 - (intOf i).toNat)
  case atStart => exact ⟨0, by omega, rfl, HO.out⟩
  case round =>
    obtain ⟨k, hk, rfl, hO⟩ := hrel
    have HO2 := Lib.hid hO; clear hO
    by_cases h32 : k < 32
    · have hs := hTo_step H h32
      have HS := Lib.hid hs; clear hs
      have hx : H.getD (k / 4) 0 < 4294967296 := by
        rw [List.getD_eq_getElem?_getD, List.getElem?_eq_getElem (by rw [HH.out]; omega)]; exact HHB.out _ (List.getElem_mem _)
      have s0 : wr.cell? ⟨G, k / 4, none⟩ = some (.int .u32 (H.getD (k / 4) 0 : Nat)) := by
        refine (HO2.out.bel.cell (p := ⟨G, k / 4, none⟩) hGs).trans ?_
        rw [cell_of_row w G _ _ _ _ HG.out]
        have e1 := HH.out
        rw [List.getElem?_toArray, List.getElem?_append_left (by simp; omega), List.getElem?_map, List.getD_eq_getElem?_getD, List.getElem?_eq_getElem (by omega)]; rfl
      have s1 : wr.cell? ⟨w.heap.size, k, none⟩ = some (.int .u8 0) := by
        rw [cell_blk HO2.out.blk, u8s, List.getElem?_map, hTo_get _ _ h32, if_neg (by omega)]; rfl
      have f1 : wr.frozen? ⟨w.heap.size, k, none⟩ = false := frozen_blk HO2.out.blk _
      have hbk : hb H k = (H.getD (k / 4) 0 >>> (24 - k % 4 * 8)) % 256 := rfl
      have HBK := Lib.hid hbk; clear hbk
      generalize H.getD (k / 4) 0 = x at *
      go_wp2_with fail
      have hO3 := HO2.out.set k (.int .u8 (hb H k : Nat))
      rw [u8s_set, HS.out] at hO3
      have e : Value.int .u8 ((hb H k : Nat) : Int) = Value.int .u8 ((x : Int) / 2 ^ (24 - k % 4 * 8) % 256) := by rw [HBK.out, Nat.shiftRight_eq_div_pow]; simp
      rw [e] at hO3
      refine ⟨⟨k + 1, by omega, by go_num, hO3⟩, ?_⟩
      simp [intOf]; omega
    · obtain rfl : k = 32 := by omega
      have hO2 := HO2.out
      rw [hTo_full] at hO2
      have HO3 := Lib.hid hO2
      have h1 := u8s_one (hashB H)
      have H1 := Lib.hid h1
      clear HO2 hO2 h1
      go_wp2_with (first
        | (refine wpList_load_row rfl 27 (.tmp 2) rfl w.heap.size rfl 27 _ (0, 0) (.array 32 5) HO3.out.blk (by kernel_rfl) rfl HI.out ?_)
        | (refine wpList_store_row rfl 27 (.tmp 2) (.tmp 22) rfl w.heap.size (u8s (hashB H)).toArray rfl rfl 27 _ HO3.out.blk HI.out rfl H1.out ?_))
      refine bodyPost_ret (v := .agg (u8s (hashB H)).toArray) (results_cell_row rfl _ _ w.heap.size _ _ _ (.array 32 5) rfl (setRow_heap _ _ _ _ _ _ HO3.out.blk) (by kernel_rfl) rfl HI.out) rfl ⟨rfl, ?_⟩
      exact below_setRow HO3.out.bel (Nat.le_refl _) _
end Go.Proofs.Ytjpimfbkdighfaa
