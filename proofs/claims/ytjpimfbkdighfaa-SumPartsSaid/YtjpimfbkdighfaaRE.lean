import Derived.Test.YtjpimfbkdighfaaRD
import Derived.Test.YtjpimfbkdighfaaD
namespace Go.Proofs.Ytjpimfbkdighfaa
open Go.RowKit

/-- A digit's letter, a hash's. -/
def hexd (n : Nat) : Nat := if n < 10 then 48 + n else 87 + n
def hexB (l : List Nat) : List Nat := l.flatMap fun b => [hexd (b / 16), hexd (b % 16)]
theorem hexB_snoc (l : List Nat) (b : Nat) : hexB (l ++ [b]) = hexB l ++ [hexd (b / 16), hexd (b % 16)] := by simp [hexB]
theorem hexB_len (l : List Nat) : (hexB l).length = 2 * l.length := by
  induction l with
  | nil => rfl
  | cons a l ih =>
    have : (hexB (a :: l)).length = 2 + (hexB l).length := by simp [hexB]; omega
    rw [this, ih, List.length_cons]; omega

theorem rdn_new {w : World} {t : TypeId} {g n : Nat} {xs : List Value} (hg : g = w.heap.size := by first | rfl | simp) (_hn : xs.length = n := by rfl) : Rd (w.alloc (.cells xs.toArray t)) (.slice (some ⟨g, 0, none⟩) n n) n xs := by
  subst hg
  exact ⟨_, _, rfl, Nat.le_refl _, .inr ⟨_, _, rfl, fun j u hu => by rw [World.cell?_alloc_new, List.getElem?_toArray, Nat.zero_add]; exact hu⟩⟩
theorem digd : ∀ n (h : n < 16), ((⟨#[48, 49, 50, 51, 52, 53, 54, 55, 56, 57, 97, 98, 99, 100, 101, 102]⟩ : ByteArray)[n]'h).toNat = hexd n := by decide

set_option maxRecDepth 100000 in
set_option maxHeartbeats 1000000 in
theorem hex_any (h : List Nat) (hl : h.length = 32) (hb : ∀ x ∈ h, x < 256) (w : World) :
    Calls Try.prog 19 #[.agg (u8s h).toArray] w fun e w' => e = .returned (.string (str (hexB h))) ∧ Qt w w' := by
  have hO : Own1 w w.heap.size 27 (u8s h) (w.alloc (.cells (u8s h).toArray 27)) := ⟨heap_alloc_new w _, (Below.refl _ _).alloc (Nat.le_refl _) _⟩
  have HO := Lib.hid hO
  have HB := Lib.hid hb
  have HL := Lib.hid hl
  obtain ⟨i0, hi0, hz0, hz1, hz2⟩ := info_parts (P := Try.prog) (e := 5) (z := .int .u8 0) (size := 1) (bytes := 1) (by kernel_rfl)
  have HI0 := Lib.hid hi0
  have HZ0 := Lib.hid hz0
  have HZ1 := Lib.hid hz1
  have HZ2 := Lib.hid hz2
  clear hi0 hz0 hz1 hz2 hO hb hl
  go_enter Try.func19, Try.ntmps19
  go_wp2_with fail
  go_loopw [4, 5] (fun o i wr => ∃ k : Nat, k ≤ 32 ∧ i = .int .i64 k ∧ OQ wr (w.heap.size + 1) 1 o (2 * k) (u8s (hexB (h.take k))) ∧ Own1 w w.heap.size 27 (u8s h) wr) (fun _ i _ => 32 - (intOf i).toNat)
  case atStart => exact ⟨0, by omega, rfl, OQ.nil _ _ _, HO.out⟩
  case round =>
    obtain ⟨k, hk, rfl, ho, hO⟩ := hrel
    obtain ⟨a3, c3, rfl⟩ := ho.slice
    have HV := Lib.hid ho
    have HW := Lib.hid hO
    clear ho hO
    by_cases h32 : k < 32
    · obtain ⟨x, hx⟩ : ∃ x, x = h.getD k 0 := ⟨_, rfl⟩
      have hxk : h[k]? = some x := by rw [hx, List.getD_eq_getElem?_getD, List.getElem?_eq_getElem (by rw [HL.out]; exact h32)]; rfl
      have hx256 : x < 256 := HB.out x (List.mem_of_getElem? hxk)
      have c0 : wr.cell? ⟨w.heap.size, k, none⟩ = some (.int .u8 (x : Nat)) := by rw [cell_blk HW.out.blk, u8s, List.getElem?_map, hxk]; rfl
      have d1 : (0 : Int) ≤ (x : Int) / 16 := by omega
      have d2 : (x : Int) / 16 < 16 := by omega
      have d3 : (0 : Int) ≤ (x : Int) % 16 := by omega
      have d4 : (x : Int) % 16 < 16 := by omega
      have d5 : IntKind.u8.wrap ((x : Int) / 16) = (x : Int) / 16 := by rw [IntKind.wrap_u8]; omega
      have d7 : (x : Int).tmod 16 = (x : Int) % 16 := Int.tmod_eq_emod_of_nonneg (by omega)
      have d6 : IntKind.u8.wrap ((x : Int) % 16) = (x : Int) % 16 := by rw [IntKind.wrap_u8]; omega
      have hst : hexB (h.take (k + 1)) = hexB (h.take k) ++ [hexd (x / 16), hexd (x % 16)] := by
        rw [← hexB_snoc]
        congr 1
        rw [List.take_add_one, hxk]; rfl
      have HST := Lib.hid hst
      clear hst hxk hx
      go_wp2_with fail
      have hwk := heap_lt HW.out.blk
      go_region_held3 (fun w' => w'.cell? ⟨w.heap.size, k, none⟩ = some (.int .u8 (x : Nat)))
        (first | exact c0 | exact (cell_alE (by simp; omega) _).trans c0 | exact (H2.out.cell_far _ (by simp; omega) (fun e => absurd (HV.out.lt _ e.symm).1 (Nat.not_succ_le_self _))).trans ((cell_alE (by simp; omega) _).trans c0))
        ((refine step_appQ (by rfl) (.tmp 10) (.tmp 23) 38 38 (by rfl) (w.heap.size + 1) 5 i0 (.int .u8 0) 1 1 (by kernel_rfl) HI0.out HZ0.out HZ1.out HZ2.out rfl _ (2 * k) _ (by rfl) (by first | exact (HV.out.alloc _).drew | exact HV.out.drew.alloc _) _ 2 _ (by rfl) (Src.ofRd (e' := 5) (by kernel_rfl) (by first | exact rdn_new.drew | exact rdn_new) rfl (by decide) (fun y hy => by simp at hy; rcases hy with rfl | rfl <;> rfl)) (by unfold maxLen; omega) (by omega) (by simp; omega) ?_; intro v3 w3 h1 h2 h3; (have H1 := Lib.hid h1); (have H2 := Lib.hid h2); clear h1 h2 h3))
      all_goals
        have h1 := H1.out
        rw [digd _ (by omega), digd _ (by omega), show ((x : Int) / 16).toNat = x / 16 from by omega, show ((x : Int) % 16).toNat = x % 16 from by omega] at h1
        rw [show [Value.int .u8 ((hexd (x / 16) : Nat) : Int), Value.int .u8 ((hexd (x % 16) : Nat) : Int)] = u8s [hexd (x / 16), hexd (x % 16)] from rfl, ← u8s_app, ← HST.out] at h1
        have h4 : Own1 w w.heap.size 27 (u8s h) w3 := Own1.app1 ((HW.out.al _).drew) ((HV.out.alloc _).drew) H2.out
        have H5 := Lib.hid h1
        have H4 := Lib.hid h4
        clear h1 h4 H1 H2
        go_wp2_with fail
        refine ⟨⟨k + 1, by omega, by go_num, by have := H5.out; rwa [show 2 * (k + 1) = 2 * k + 2 from rfl], H4.out⟩, ?_⟩
        simp [intOf]; omega
    · obtain rfl : k = 32 := by omega
      have hv := HV.out
      rw [List.take_of_length_le (by rw [HL.out]; exact Nat.le_refl _)] at hv
      have hcv := conv_str (P := Try.prog) 38 5 (by kernel_rfl) (by kernel_rfl) (Rd.of_OQ hv) (by rw [hexB_len, HL.out]) 9 (by kernel_rfl)
      obtain ⟨T, hT⟩ : ∃ T, T = str (hexB h) := ⟨_, rfl⟩
      rw [← hT] at hcv
      have HT := Lib.hid hT
      clear hT hv
      go_wp2_with fail
      go_ret
      exact ⟨by rw [HT.out]; rfl, HW.out.bel⟩
end Go.Proofs.Ytjpimfbkdighfaa
