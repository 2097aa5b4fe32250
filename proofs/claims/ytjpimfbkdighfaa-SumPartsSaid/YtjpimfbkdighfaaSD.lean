import Derived.Test.YtjpimfbkdighfaaSC
namespace Go.Proofs.Ytjpimfbkdighfaa
open Go.RowKit

def KS : List Nat := [1116352408, 1899447441, 3049323471, 3921009573, 961987163, 1508970993, 2453635748, 2870763221, 3624381080, 310598401, 607225278, 1426881987, 1925078388, 2162078206, 2614888103, 3248222580, 3835390401, 4022224774, 264347078, 604807628, 770255983, 1249150122, 1555081692, 1996064986, 2554220882, 2821834349, 2952996808, 3210313671, 3336571891, 3584528711, 113926993, 338241895, 666307205, 773529912, 1294757372, 1396182291, 1695183700, 1986661051, 2177026350, 2456956037, 2730485921, 2820302411, 3259730800, 3345764771, 3516065817, 3600352804, 4094571909, 275423344, 430227734, 506948616, 659060556, 883997877, 958139571, 1322822218, 1537002063, 1747873779, 1955562222, 2024104815, 2227730452, 2361852424, 2428436474, 2756734187, 3204031479, 3329325298]
def HS : List Nat := [1779033703, 3144134277, 1013904242, 2773480762, 1359893119, 2600822924, 528734635, 1541459225]
theorem KS_len : KS.length = 64 := by decide
theorem HS_len : HS.length = 8 := by decide
theorem KS_lt : ∀ x ∈ KS, x < 4294967296 := by decide
theorem HS_lt : ∀ x ∈ HS, x < 4294967296 := by decide

set_option maxRecDepth 100000 in
theorem begun_any (w : World) : Calls Try.prog 21 #[] w fun e w' => e = .returned (.agg (HS.map u32v).toArray) ∧ Qt w w' := by
  have hz : ((Try.prog).info? 48).map (·.size) = some (HS.map u32v).toArray.size := by kernel_rfl
  have h8 : 8 = (HS.map u32v).toArray.size := by kernel_rfl
  have HZ := Lib.hid hz
  have H8 := Lib.hid h8
  clear hz h8
  go_enter Try.func21, Try.ntmps21
  go_wp2_with (first
    | (refine wpList_store_row rfl 48 (.tmp 0) (.tmp 1) rfl w.heap.size (HS.map u32v).toArray rfl rfl 48 _ (heap_alloc_new w _) HZ.out H8.out (by kernel_rfl) ?_))
  refine bodyPost_ret (v := .agg (HS.map u32v).toArray) (results_cell_row rfl _ _ w.heap.size _ _ _ (.array 8 46) rfl (setRow_heap _ _ _ _ _ _ (heap_alloc_new w _)) (by kernel_rfl) rfl HZ.out) rfl ⟨rfl, ?_⟩
  exact below_setRow ((Qt.refl w).alloc _) (Nat.le_refl _) _

set_option maxRecDepth 100000 in
theorem constants_any (w : World) : Calls Try.prog 22 #[] w fun e w' => e = .returned (.agg (KS.map u32v).toArray) ∧ Qt w w' := by
  have hz : ((Try.prog).info? 50).map (·.size) = some (KS.map u32v).toArray.size := by kernel_rfl
  have h8 : 64 = (KS.map u32v).toArray.size := by kernel_rfl
  have HZ := Lib.hid hz
  have H8 := Lib.hid h8
  clear hz h8
  go_enter Try.func22, Try.ntmps22
  go_wp2_with (first
    | (refine wpList_build rfl 50 _ rfl (by kernel_rfl) ?_)
    | (refine wpList_store_row rfl 50 (.tmp 0) (.tmp 1) rfl w.heap.size (KS.map u32v).toArray rfl (by kernel_rfl) 50 _ (heap_alloc_new w _) HZ.out H8.out (by kernel_rfl) ?_))
  refine bodyPost_ret (v := .agg (KS.map u32v).toArray) (results_cell_row rfl _ _ w.heap.size _ _ _ (.array 64 46) rfl (setRow_heap _ _ _ _ _ _ (heap_alloc_new w _)) (by kernel_rfl) rfl HZ.out) rfl ⟨rfl, ?_⟩
  exact below_setRow ((Qt.refl w).alloc _) (Nat.le_refl _) _
end Go.Proofs.Ytjpimfbkdighfaa
