import Derived.Test.YtjpimfbkdighfaaRF
import Derived.Test.YtjpimfbkdighfaaO
namespace Go.Proofs.Ytjpimfbkdighfaa
open Go.RowKit

def GreatP (xss : List (List Nat)) (w : World) (e : Ending) (w' : World) : Prop := ∃ b : Bool, e = .returned (.bool b) ∧ (b = false → xss.length + xss.flatten.length ≤ 3000) ∧ w = w'

set_option maxRecDepth 100000 in
set_option maxHeartbeats 1000000 in
theorem great_any (xss : List (List Nat)) (v : Value) (w : World) (hv : Parts w v xss) (hn : xss.length ≤ 5864062014634) (hl : ∀ x ∈ xss, x.length ≤ 140737488351232) :
    Calls Try.prog 7 #[v] w (GreatP xss w) := by
  obtain ⟨⟨vs, hvs, hvl, hvr⟩, hlt⟩ := hv
  obtain ⟨a, c, rfl, hc, h0⟩ := hvs
  have HVR := Lib.hid hvr; clear hvr
  have H0 := Lib.hid h0; clear h0
  have HL := Lib.hid hl; clear hl
  clear hlt hvl
  go_enter Try.func7, Try.ntmps7
  go_wp2
  go_loop [3, 4] (fun o i => ∃ k n : Nat, k ≤ xss.length ∧ i = .int .i64 (k : Nat) ∧ o = .int .i64 (n : Nat) ∧ n = xss.length + (xss.take k).flatten.length ∧ n ≤ 150000000000000) (fun _ i => xss.length - (intOf i).toNat)
  case atStart => exact ⟨0, xss.length, Nat.zero_le _, rfl, rfl, by simp, by omega⟩
  case round =>
    obtain ⟨k, n, hk, rfl, rfl, hnn, hb⟩ := hrel
    have HN := Lib.hid hnn; clear hnn
    by_cases hlt : k < xss.length
    · have hd : decide ((k : Int) < (xss.length : Int)) = true := by simp; omega
      by_cases h3 : n ≤ 3000
      · have hd2 : decide ((n : Int) ≤ 3000) = true := by simp; omega
        obtain ⟨xs, hxs⟩ : ∃ xs, xs = xss[k] := ⟨_, rfl⟩
        have hxk : xss[k]? = some xs := by rw [List.getElem?_eq_getElem hlt, hxs]
        obtain ⟨u, hu, hur⟩ := HVR.out k xs hxk
        obtain ⟨b, off, rfl, hcell⟩ : ∃ b off, a = some ⟨b, off, none⟩ ∧ w.cell? ⟨b, off + k, none⟩ = some u := by
          rcases H0.out with rfl | ⟨b, off, rfl, g⟩
          · simp at hu
          · exact ⟨b, off, rfl, g k _ hu⟩
        have hst : (xss.take (k + 1)).flatten.length = (xss.take k).flatten.length + xs.length := by rw [List.take_succ_eq_append_getElem hlt, List.flatten_append, hxs]; simp
        have hxl := HL.out xs (List.mem_of_getElem? hxk)
        obtain ⟨ua, uc, rfl, -⟩ := hur
        have HST := Lib.hid hst
        clear hst hu hxk hxs
        go_wp2
        go_round
        case rel => exact ⟨k + 1, n + xs.length, by omega, by go_num, by go_num, by rw [HST.out, HN.out]; omega, by omega⟩
        case measure => simp [intOf]; omega
      · have hd2 : decide ((n : Int) ≤ 3000) = false := by simp; omega
        go_wp2
        go_ret
        exact ⟨_, rfl, fun h => by simp at h; omega, rfl⟩
    · have hd : decide ((k : Int) < (xss.length : Int)) = false := by simp; omega
      obtain rfl : k = xss.length := by omega
      go_wp2
      go_ret
      refine ⟨_, rfl, fun h => ?_, rfl⟩
      have hn := HN.out
      rw [List.take_length] at hn
      simp at h
      omega
end Go.Proofs.Ytjpimfbkdighfaa
