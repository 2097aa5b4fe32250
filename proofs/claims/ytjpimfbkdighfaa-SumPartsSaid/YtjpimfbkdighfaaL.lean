import Derived.Test.YtjpimfbkdighfaaK
namespace Go.Proofs.Ytjpimfbkdighfaa
open Go.RowKit

set_option maxRecDepth 100000 in
set_option maxHeartbeats 1000000 in
theorem keptBytes_any (xs : List Nat) (hl : xs.length ≤ 100000) (base : Nat) (u v : Value) (w : World) (hu : Lent w base u xs) (hv : Rd w v xs.length (u8s xs)) :
    Calls Try.prog 28 #[u, v] w fun e w' => e = .returned (.bool true) ∧ ∃ m, w' = w.drewN m := by
  obtain ⟨⟨g, off, c, rfl, _, _, hc, hcm, hcell⟩, hx⟩ := hu
  obtain ⟨va, vc, rfl, hvc, hvx⟩ := hv
  unfold maxLen at hcm
  have HC := Lib.hid hcell; clear hcell
  have HV := Lib.hid hvx; clear hvx
  have HX := Lib.hid hx; clear hx
  have hlen : (u8s (xs ++ (List.range 12).map (mkb 1))).length = xs.length + 12 := by simp [u8s]
  go_enter Try.func28, Try.ntmps28
  go_wp2
  go_loopw [6] (fun i wr => ∃ k : Nat, k ≤ xs.length + 12 ∧ i = .int .i64 k ∧ ∃ m, wr = w.drewN m) (fun i _ => xs.length + 12 - (intOf i).toNat)
  case atStart => exact ⟨0, by omega, rfl, 0, rfl⟩
  case round =>
    obtain ⟨k, hk, rfl, hm⟩ := hrel
    have hcl : ∀ a, wr.cell? a = w.cell? a := by obtain ⟨m, rfl⟩ := hm; exact fun _ => rfl
    have HCL := Lib.hid hcl; clear hcl
    have HM := Lib.hid hm; clear hm
    by_cases h12 : k < xs.length + 12
    · by_cases hkn : k < xs.length
      · have hy : (u8s xs)[k]? = some (.int .u8 (xs[k] : Nat)) := by simp [u8s, hkn]
        have c0 : wr.cell? ⟨g, off + k, none⟩ = some (.int .u8 (xs[k] : Nat)) := by
          rw [HCL.out]; refine HC.out k _ ?_
          rw [u8s_app, List.getElem?_append_left (by rw [u8s_len]; exact hkn)]; exact hy
        obtain ⟨b, o2, rfl, c1⟩ : ∃ b o2, va = some ⟨b, o2, none⟩ ∧ wr.cell? ⟨b, o2 + k, none⟩ = some (.int .u8 (xs[k] : Nat)) := by
          rcases HV.out with h | ⟨b, o2, rfl, h⟩
          · rw [h] at hy; simp at hy
          · exact ⟨b, o2, rfl, by rw [HCL.out]; exact h k _ hy⟩
        generalize xs[k] = y at *
        clear hy hlen
        have i1 : (k : Int) < (xs.length : Int) := by omega
        have i2 : (0 : Int) ≤ (k : Int) := by omega
        have i3 : (k : Int) < (xs.length : Int) + 12 := by omega
        have d1 : decide (xs.length ≤ k) = false := by simp; omega
        go_wp2_with fail
        go_quiet (fail)
        go_wp2_with fail
        have hm := HM.out
        go_roundw
        case rel => exact ⟨k + 1, by omega, by go_num, by obtain ⟨m, rfl⟩ := hm; exact ⟨m + nq, by simp [World.drewN, Nat.add_assoc]⟩⟩
        case measure => simp [intOf]; omega
      · have hy : (u8s (xs ++ (List.range 12).map (mkb 1)))[k]? = some (.int .u8 (mkb 1 (k - xs.length) : Nat)) := by
          rw [u8s_app, List.getElem?_append_right (by rw [u8s_len]; omega), u8s_len]
          simp [u8s, show k - xs.length < 12 from by omega]
        have c0 : wr.cell? ⟨g, off + k, none⟩ = some (.int .u8 (mkb 1 (k - xs.length) : Nat)) := by
          rw [HCL.out]; exact HC.out k _ hy
        have hmk := fun w => markByte_any 1 (k - xs.length) (by omega) (by omega) w
        have HMK := Lib.hid hmk
        clear hy hlen hmk
        generalize mkb 1 (k - xs.length) = y at *
        have i1 : ¬ (k : Int) < (xs.length : Int) := by omega
        have i2 : (0 : Int) ≤ (k : Int) := by omega
        have i3 : (k : Int) < (xs.length : Int) + 12 := by omega
        have i4 : IntKind.i64.wrap ((k : Int) - (xs.length : Int)) = ((k - xs.length : Nat) : Int) := by rw [IntWalk.i64_in _ (by omega)]; omega
        have d1 : decide (xs.length ≤ k) = true := by simp; omega
        have d2 : decide (k < xs.length) = false := by simp; omega
        go_wp2_with fail
        go_quiet ((go_at_call 32; exact quiet_same (HMK.out _)))
        go_wp2_with fail
        have hm := HM.out
        go_roundw
        case rel => exact ⟨k + 1, by omega, by go_num, by obtain ⟨m, rfl⟩ := hm; exact ⟨m + nq, by simp [World.drewN, Nat.add_assoc]⟩⟩
        case measure => simp [intOf]; omega
    · obtain rfl : k = xs.length + 12 := by omega
      go_wp2
      go_ret
      exact ⟨rfl, HM.out⟩

theorem quiet_more {P : Program} {f : FuncId} {args : Array Value} {w : World} {n : Nat} {v : Value}
    (h : Calls P f args (w.drewN n) fun e w' => e = .returned v ∧ ∃ m, w' = (w.drewN n).drewN m) : Calls P f args (w.drewN n) fun e w'' => e = .returned v ∧ ∃ m, w'' = w.drewN m :=
  h.mono fun _ _ ⟨he, m, hm⟩ => ⟨he, n + m, by rw [hm]; simp [World.drewN, Nat.add_assoc]⟩
theorem Lent.drewN {w : World} {base : Nat} {u : Value} {x : List Nat} (h : Lent w base u x) (n : Nat) : Lent (w.drewN n) base u x := h.below ((Qt.refl w).drewN n)
theorem Rd.drewN {w : World} {n : Nat} {v : Value} {xs : List Value} (h : Rd w v n xs) (m : Nat) : Rd (w.drewN m) v n xs := h.below ((Qt.refl w).drewN m)

set_option maxRecDepth 100000 in
set_option maxHeartbeats 1000000 in
theorem keptRows_any (xss : List (List Nat)) (hn : xss.length ≤ 100000) (hl : ∀ x ∈ xss, x.length ≤ 100000) (base : Nat) (r v : Value) (w : World) (hr : LentRs w base r xss) (hv : Parts w v xss) :
    Calls Try.prog 12 #[r, v] w fun e w' => e = .returned (.bool true) ∧ ∃ m, w' = w.drewN m := by
  obtain ⟨us, ho, _, _, hus⟩ := hr
  obtain ⟨⟨vs, ⟨va, vc, rfl, hvc, hvx⟩, hvl, hvr⟩, hlt⟩ := hv
  have hrd := Rd.of_OQ ho
  obtain ⟨ra, rc, rfl, hrc, hrx⟩ := hrd
  have HO := Lib.hid hrx
  have HUS := Lib.hid hus
  have HVX := Lib.hid hvx
  have HVR := Lib.hid hvr
  have HL := Lib.hid hl
  clear ho hrx hus hvx hvr hl hvl hlt
  go_enter Try.func12, Try.ntmps12
  go_wp2
  go_loopw [5] (fun i wr => ∃ k : Nat, k ≤ xss.length ∧ i = .int .i64 k ∧ ∃ m, wr = w.drewN m) (fun i _ => xss.length - (intOf i).toNat)
  case atStart => exact ⟨0, by omega, rfl, 0, rfl⟩
  case round =>
    obtain ⟨k, hk, rfl, hm⟩ := hrel
    have hcl : ∀ a, wr.cell? a = w.cell? a := by obtain ⟨m, rfl⟩ := hm; exact fun _ => rfl
    have HCL := Lib.hid hcl; clear hcl
    have HM := Lib.hid hm; clear hm
    by_cases hlt : k < xss.length
    · obtain ⟨xs, hxs⟩ : ∃ xs, xs = xss[k] := ⟨_, rfl⟩
      have hxk : xss[k]? = some xs := by rw [List.getElem?_eq_getElem hlt, hxs]
      obtain ⟨u, hu, hul⟩ := HUS.out k xs hxk
      obtain ⟨y, hy, hyr⟩ := HVR.out k xs hxk
      obtain ⟨g, f, rfl, c0⟩ : ∃ g f, ra = some ⟨g, f, none⟩ ∧ wr.cell? ⟨g, f + k, none⟩ = some u := by
        rcases HO.out with rfl | ⟨b, off, rfl, h⟩
        · simp at hu
        · exact ⟨b, off, rfl, by rw [HCL.out]; exact h k _ hu⟩
      obtain ⟨g2, f2, rfl, c1⟩ : ∃ g f, va = some ⟨g, f, none⟩ ∧ wr.cell? ⟨g, f + k, none⟩ = some y := by
        rcases HVX.out with rfl | ⟨b, off, rfl, h⟩
        · simp at hy
        · exact ⟨b, off, rfl, by rw [HCL.out]; exact h k _ hy⟩
      have hkb : ∀ n, Calls Try.prog 28 #[u, y] (wr.drewN n) fun e w' => e = .returned (.bool true) ∧ ∃ m, w' = (wr.drewN n).drewN m := fun n => by
        obtain ⟨m, rfl⟩ := HM.out
        exact keptBytes_any xs (HL.out xs (List.mem_of_getElem? hxk)) base u y _ ((hul.drewN m).drewN n) ((hyr.drewN m).drewN n)
      have HKB := Lib.hid hkb
      clear hkb hul hyr hu hy hxk hxs
      have i1 : (k : Int) < (xss.length : Int) := by omega
      have i2 : (0 : Int) ≤ (k : Int) := by omega
      go_wp2_with fail
      go_quiet ((go_at_call 28; exact quiet_more (HKB.out _)))
      go_wp2_with fail
      have hm := HM.out
      go_roundw
      case rel => exact ⟨k + 1, by omega, by go_num, by obtain ⟨m, rfl⟩ := hm; exact ⟨m + nq, by simp [World.drewN, Nat.add_assoc]⟩⟩
      case measure => simp [intOf]; omega
    · obtain rfl : k = xss.length := by omega
      go_wp2
      go_ret
      exact ⟨rfl, HM.out⟩
end Go.Proofs.Ytjpimfbkdighfaa
