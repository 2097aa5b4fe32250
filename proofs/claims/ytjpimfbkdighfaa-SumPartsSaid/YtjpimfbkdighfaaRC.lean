import Derived.Test.YtjpimfbkdighfaaRB
namespace Go.Proofs.Ytjpimfbkdighfaa
open Go.RowKit

theorem numbersR_rd1 (w : World) (n : Nat) (o : Obj) (hn : n = w.heap.size) : Rd ((w.alloc (.cells (HS.map u32v).toArray 46)).alloc o) (.slice (some ⟨n, 0, none⟩) 8 8) 8 (HS.map u32v) := by
  subst hn
  exact (Rd.of_OQ (OQ.newRow (base := 0) (Nat.zero_le _) (by rw [List.length_map, HS_len]))).al _
theorem numbersR_rd2 (w : World) (n : Nat) (hn : n = w.heap.size) : Rd (w.alloc (.cells (KS.map u32v).toArray 46)) (.slice (some ⟨n, 0, none⟩) 64 64) 64 (KS.map u32v) := by
  subst hn
  exact Rd.of_OQ (OQ.newRow (base := 0) (Nat.zero_le _) (by rw [List.length_map, KS_len]))
set_option maxRecDepth 100000 in
set_option maxHeartbeats 1000000 in
theorem numbersR_any (w : World) : Calls Try.prog 25 #[] w fun e w' => ∃ r1 r2, e = .returned (.tuple #[r1, r2]) ∧ Rd w' r1 8 (HS.map u32v) ∧ Rd w' r2 64 (KS.map u32v) ∧ Qt w w' := by
  go_enter Try.func25, Try.ntmps25
  go_wp2
  go_ret2
  exact ⟨_, _, rfl, numbersR_rd1 w _ _ rfl, numbersR_rd2 _ _ (by simp), ((Qt.refl w).alloc _).alloc _⟩
end Go.Proofs.Ytjpimfbkdighfaa
