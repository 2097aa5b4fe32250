import Derived.Test.YtajkmblcphdnbaaGreatVA
import Derived.Deep.RegionLaw
import Derived.IntWalk
/-! A writer's numbers. -/
namespace Go.Proofs.YtajkmblcphdnbaaGreat
open Go.RowKit
set_option linter.unusedVariables false
set_option linter.unusedSimpArgs false

section
variable (a : Nat) (x y : Bool) (sl : Value) (w : World)
theorem may_any (hb : Blk w a 61 [.bool x, .bool y, sl]) :
    Calls Tryz.prog 75 #[.pointer (some ⟨a, 0, none⟩)] w fun e w' => e = .returned (.bool (x && !y)) ∧ w = w' := by
  have c0 : w.cell? ⟨a, 0, none⟩ = some (.bool x) := hb.cell 0
  have c1 : w.cell? ⟨a, 1, none⟩ = some (.bool y) := hb.cell 1
  clear hb
  cases x <;> cases y
  all_goals
    go_enter Tryz.func75, Tryz.ntmps75
    go_wp2
    go_ret
    exact ⟨rfl, rfl⟩
end
theorem may_nil (w : World) :
    Calls Tryz.prog 75 #[.pointer none] w fun e w' => e = .returned (.bool false) ∧ w = w' := by
  go_enter Tryz.func75, Tryz.ntmps75
  go_wp2
  go_ret
  exact ⟨rfl, rfl⟩
/-- No writer, one that nobody made, or a spoilt one. -/
def DeadW (w : World) (p : Value) : Prop :=
  p = .pointer none ∨ ∃ (a : Nat) (m b : Bool) (sl : Value), p = .pointer (some ⟨a, 0, none⟩) ∧ Blk w a 61 [.bool m, .bool b, sl] ∧ (m = false ∨ b = true)
theorem DeadW.qt {w w' : World} {p : Value} (h : DeadW w p) (q : Qt w w') : DeadW w' p := by
  rcases h with rfl | ⟨a, m, b, sl, rfl, hb, h⟩
  · exact .inl rfl
  · exact .inr ⟨a, m, b, sl, rfl, hb.qt q, h⟩
theorem may_dead (w : World) (p : Value) (h : DeadW w p) :
    Calls Tryz.prog 75 #[p] w fun e w' => e = .returned (.bool false) ∧ w = w' := by
  rcases h with rfl | ⟨a, m, b, sl, rfl, hb, h⟩
  · exact may_nil w
  · refine (may_any a m b sl w hb).mono ?_
    rintro e w' ⟨rfl, rfl⟩
    rcases h with rfl | rfl <;> simp

/-- The spoilt writer is dead. -/
theorem WrA.dead {S : Nat → Prop} {w : World} {a : Nat} (h : WrA S w a none) : DeadW w (.pointer (some ⟨a, 0, none⟩)) := by
  obtain ⟨⟨sl, hb⟩, _⟩ := h
  exact .inr ⟨a, true, true, sl, rfl, hb, .inr rfl⟩

theorem u8_shr (n i : Nat) : IntKind.u8.wrap ((n : Int) / 2 ^ (8 * (i : Int)).toNat) = ((n / 2 ^ (8 * i) % 256 : Nat) : Int) := by
  have e : (8 * (i : Int)).toNat = 8 * i := by omega
  rw [e]
  show ((n : Int) / 2 ^ (8 * i)) % 256 = _
  simp
theorem wnumber_dead (w : World) (p : Value) (n : Int) (k : Int) (h : DeadW w p) :
    Calls Tryz.prog 74 #[p, .int .u64 n, .int .i64 k] w fun e w' => e = .returned (.tuple #[]) ∧ w = w' := by
  have HM := Lib.hid (may_dead w p h)
  obtain ⟨x, rfl⟩ : ∃ x, p = .pointer x := by rcases h with rfl | ⟨a, _, _, _, rfl, _⟩ <;> exact ⟨_, rfl⟩
  clear h
  go_enter Tryz.func74, Tryz.ntmps74
  go_wp2_with (go_at_call 75; refine HM.out.mono ?_; rintro e w1 ⟨rfl, rfl⟩)
  refine bodyPost_ret (results_none rfl _ _ _) rfl ?_
  exact ⟨rfl, rfl⟩
set_option maxRecDepth 100000 in
set_option maxHeartbeats 1000000 in
theorem wnumber_some (S : Nat → Prop) (a n k : Nat) (l : List Nat) (w : World) (hW : WrA S w a (some l)) (hn : n < 18446744073709551616) (hk : k ≤ 8) (hl : l.length + k ≤ 140737488355328) :
    Calls Tryz.prog 74 #[.pointer (some ⟨a, 0, none⟩), .int .u64 (n : Int), .int .i64 (k : Int)] w fun e w' =>
      e = .returned (.tuple #[]) ∧ WrA (Fr S w w') w' a (some (l ++ beB k n)) ∧ Gs S w w' := by
  obtain ⟨i0, hi0, hz0, hz1, hz2⟩ := info_parts (P := Tryz.prog) (e := 5) (z := .int .u8 0) (size := 1) (bytes := 1) (by kernel_rfl)
  have HI0 := Lib.hid hi0
  have HZ0 := Lib.hid hz0
  have HZ1 := Lib.hid hz1
  have HZ2 := Lib.hid hz2
  clear hi0 hz0 hz1 hz2
  have HW := Lib.hid hW
  obtain ⟨sl, hb, hO⟩ := hW
  have HM := Lib.hid (may_any a true false sl w hb)
  have HLT := Lib.hid hO.lt
  clear hb hO
  go_enter Tryz.func74, Tryz.ntmps74
  go_wp2_with (go_at_call 75; refine HM.out.mono ?_; rintro e w1 ⟨rfl, rfl⟩)
  go_loopw [2] (fun m wr => ∃ j : Nat, j ≤ k ∧ m = .int .i64 ((k : Int) - 1 - j) ∧ WrA (Fr S w wr) wr a (some (l ++ (beB k n).take j)) ∧ Gs S w wr) (fun m _ => (intOf m + 1).toNat)
  case atStart => exact ⟨0, by omega, by go_num, by simpa using HW.out.fr, Gs.refl _ _⟩
  case round =>
    obtain ⟨j, hj, rfl, hWr, hG⟩ := hrel
    have HWR := Lib.hid hWr
    have HG := Lib.hid hG
    clear hWr hG
    by_cases hlt : j < k
    · obtain ⟨i, hi⟩ : ∃ i, k = j + 1 + i := ⟨k - j - 1, by omega⟩
      have ei : (k : Int) - 1 - j = (i : Int) := by omega
      rw [ei]
      clear ei
      have hi7 : i ≤ 7 := by omega
      have HT := Lib.hid (beB_take n j i k hi)
      have HIJ := Lib.hid hi
      have hmul : IntKind.i64.wrap (8 * (i : Int)) = ((8 * i : Nat) : Int) := by rw [IntWalk.i64_in _ (by omega)]; omega
      obtain ⟨N, hN⟩ : ∃ N, N = n / 2 ^ (8 * i) := ⟨_, rfl⟩
      have hu := u8_shr n i
      rw [← hN] at HT hu
      have HU := Lib.hid hu
      have hll : (l ++ (beB k n).take j).length = l.length + j := by rw [List.length_append, List.length_take, beB_len, Nat.min_eq_left hj]
      have hstep : l ++ (beB k n).take (j + 1) = (l ++ (beB k n).take j) ++ [N % 256] := by rw [HT.out, List.append_assoc]
      obtain ⟨L, hL⟩ : ∃ L, L = l ++ (beB k n).take j := ⟨_, rfl⟩
      rw [← hL] at hll hstep HWR
      obtain ⟨sl', hb, hO⟩ := HWR.out
      have c0 : wr.cell? ⟨a, 2, none⟩ = some sl' := hb.cell 2
      have c0' : ∀ o, (wr.alloc o).cell? ⟨a, 2, none⟩ = some sl' := fun o => (hb.alloc o).cell 2
      have f0 : wr.frozen? ⟨a, 2, none⟩ = false := hb.frozen 2
      have hoq := hO.oq
      obtain ⟨va, vc, rfl⟩ := hoq.slice
      have HLN := Lib.hid (show L.length + 1 ≤ maxLen ∧ (L.length + 1) * 1 ≤ 140737488355328 from by unfold maxLen; omega)
      have HB := Lib.hid hb
      have HO := Lib.hid hO
      have HOQ := Lib.hid hoq
      have HS := Lib.hid hstep
      have HN := Lib.hid hN
      clear hb hO hoq hi hll hstep hL hN HWR HT hu
      go_wp2
      go_region_law ((refine step_appQ (by rfl) (.tmp 19) (.tmp 25) 26 26 (by rfl) 0 5 i0 (.int .u8 0) 1 1 (by kernel_rfl) HI0.out HZ0.out HZ1.out HZ2.out rfl _ _ _ (by rfl) (by first | exact (HOQ.out.alloc _).drew | exact HOQ.out.drew.alloc _) _ 1 _ (by rfl) (Src.ofRd (e' := 5) (by kernel_rfl) (by first | exact rdv_new.below (Qt.refl _).drew | exact rdv_new) rfl (by decide) (fun y hy => by simp at hy; rw [hy]; rfl)) (HLN.out.1) (HLN.out.2) (Nat.zero_le _) ?_; intro v3 w3 h1 h2 h3; obtain ⟨va3, vc3, rfl⟩ := h1.slice; (have hb3 := HO.out.blk (HB.out.qt (by first | exact ((Qt.refl wr).alloc _).drew | exact (Qt.refl wr).drew.alloc _)) h2); (have c3 : w3.cell? ⟨a, 2, none⟩ = some (.slice va L.length vc) := hb3.cell 2); (have f3 : w3.frozen? ⟨a, 2, none⟩ = false := hb3.frozen 2); (have H1 := Lib.hid h1); (have H2 := Lib.hid h2); (have H3 := Lib.hid h3); (have HB3 := Lib.hid hb3); clear h1 h2 h3 hb3))
      all_goals
        go_wp2
        have h1 := H1.out
        rw [u8v (by rw [HU.out])] at h1
        obtain ⟨hS, hQ⟩ := HO.out.step (i := 2) (by first | exact ((Qt.refl wr).alloc _).drew | exact (Qt.refl wr).drew.alloc _) H2.out h1 H3.out (by intro x hx; simp at hx; omega)
        have hG2 := HG.out.trans hQ
        have hB3 := HB3.out.set 2 (.slice va3 (L.length + 1) vc3)
        go_roundw
        case rel => exact ⟨j + 1, by omega, by have := HIJ.out; go_num, by rw [HS.out]; exact WrL.fr2 ⟨_, hB3, hS⟩ HG.out.size hQ.size HLT.out, hG2⟩
        case measure => simp [intOf] <;> omega
    · obtain rfl : j = k := by omega
      have ej : (j : Int) - 1 - j = -1 := by omega
      rw [ej]
      have ht : (beB j n).take j = beB j n := List.take_of_length_le (by rw [beB_len]; exact Nat.le_refl _)
      rw [ht] at HWR
      go_wp2
      go_end0
      exact ⟨rfl, HWR.out, HG.out⟩
end Go.Proofs.YtajkmblcphdnbaaGreat
