import Derived.Test.YtjpimfbkdighfaaRA
namespace Go.Proofs.Ytjpimfbkdighfaa
open Go.RowKit

set_option maxRecDepth 100000 in
set_option maxHeartbeats 2000000 in
theorem padR_any (b : List Nat) (hb : ∀ x ∈ b, x < 256) (hl : b.length ≤ 90000) (v : Value) (w : World) (hv : Rd w v b.length (u8s b)) :
    Calls Try.prog 26 #[v] w fun e w' => ∃ r, e = .returned r ∧ OQ w' w.heap.size 1 r (padded b).length (u8s (padded b)) ∧ Qt w w' := by
  obtain ⟨va, vc, rfl, hvc⟩ : ∃ a c, v = .slice a b.length c ∧ True := by obtain ⟨a, c, rfl, _⟩ := hv; exact ⟨a, c, rfl, trivial⟩
  obtain ⟨i0, hi0, hz0, hz1, hz2⟩ := info_parts (P := Try.prog) (e := 5) (z := .int .u8 0) (size := 1) (bytes := 1) (by kernel_rfl)
  have HV := Lib.hid hv
  have HX := Lib.hid hb
  have HI0 := Lib.hid hi0
  have HZ0 := Lib.hid hz0
  have HZ1 := Lib.hid hz1
  have HZ2 := Lib.hid hz2
  clear hv hb hi0 hz0 hz1 hz2
  go_enter Try.func26, Try.ntmps26
  go_wp2_with (first
    | (at_builtin; refine wp_appQ rfl (.tmp 6) (.tmp 7) 38 38 rfl w.heap.size 5 i0 (.int .u8 0) 1 1 (by kernel_rfl) HI0.out HZ0.out HZ1.out HZ2.out rfl _ 0 [] rfl (OQ.emptyNew (Nat.le_refl _)) _ b.length (u8s b) rfl (Src.ofRd (e' := 5) (by kernel_rfl) (HV.out.below ((Qt.refl w).alloc _)) (by rw [u8s_len, Nat.mul_one]) (by decide) (u8s_one1 b)) (by unfold maxLen; omega) (by omega) (by simp) ?_; intro v2 w2 h1 h2 h3; rw [Nat.zero_add, List.nil_append] at h1; (have hb2 := below_app (hb := (Below.refl w.heap.size w).alloc (Nat.le_refl _) _) (OQ.emptyNew (Nat.le_refl _)) h2); obtain ⟨a2, c2, rfl⟩ := h1.slice; (have H1 := Lib.hid h1); (have HB2 := Lib.hid hb2); clear h1 h2 h3 hb2)
    | (at_builtin; refine wp_appQ rfl (.tmp 9) (.tmp 10) 38 38 rfl w.heap.size 5 i0 (.int .u8 0) 1 1 (by kernel_rfl) HI0.out HZ0.out HZ1.out HZ2.out rfl _ b.length _ rfl (H1.out.alloc _) _ 1 (u8s [128]) rfl (Src.ofRd (e' := 5) (by kernel_rfl) rd1_new (by rw [u8s_len]; rfl) (by decide) (u8s_one1 _)) (by unfold maxLen; omega) (by omega) (Nat.le_trans HB2.out.size (by simp)) ?_; intro v3 w3 h1 h2 h3; (have hb3 := below_app (hb := HB2.out.alloc HB2.out.size _) (H1.out.alloc _) h2); obtain ⟨a3, c3, rfl⟩ := h1.slice; (have H3 := Lib.hid h1); (have HB3 := Lib.hid hb3); clear h1 h2 h3 hb3))
  go_loopg [3] (zs b.length) (fun n o wr => ∃ z, n + z = zs b.length ∧ OQ wr w.heap.size 1 o (b.length + 1 + z) (u8s ((b ++ [128]) ++ List.replicate z 0)) ∧ Below w.heap.size w wr)
  case atStart => exact ⟨0, rfl, by have := H3.out; rw [← u8s_app] at this; simpa using this, HB3.out⟩
  case round =>
    obtain ⟨z, hz, ho, hb⟩ := hrel
    obtain ⟨a4, c4, rfl⟩ := ho.slice
    have hzz : zs b.length = (119 - b.length % 64) % 64 := rfl
    have HO := Lib.hid ho
    have HB := Lib.hid hb
    have HZ := Lib.hid hz
    have HZZ := Lib.hid hzz
    clear ho hb hz hzz
    by_cases h56 : (b.length + 1 + z) % 64 = 56
    · have hze0 : z = zs b.length := by have h1 := HZ.out; have h2 := HZZ.out; omega
      have HZE := Lib.hid hze0; clear hze0
      have hi56 : (((b.length : Int) + 1 + (z : Int)) % 64 != 56) = false := by rw [bne_eq_false_iff_eq]; omega
      go_wp2_with fail
      go_loopw [3, 5] (fun o i wr => ∃ j : Nat, j ≤ 8 ∧ i = .int .i64 (7 - (j : Nat)) ∧ OQ wr w.heap.size 1 o (b.length + 1 + z + j) (u8s (((b ++ [128]) ++ List.replicate z 0) ++ (be8 (b.length * 8)).take j)) ∧ Below w.heap.size w wr) (fun _ i _ => (intOf i + 1).toNat)
      case atStart => exact ⟨0, by omega, rfl, by rw [List.take_zero, List.append_nil]; exact HO.out, HB.out⟩
      case round =>
        obtain ⟨j, hj, hi, ho, hb⟩ := hrel
        obtain ⟨a5, c5, rfl⟩ := ho.slice
        have HO5 := Lib.hid ho
        have HB5 := Lib.hid hb
        clear ho hb
        by_cases hj8 : j < 8
        · obtain ⟨e, he⟩ : ∃ e : Nat, e = 7 - j := ⟨_, rfl⟩
          have he7 : e ≤ 7 := by omega
          have hee : (7 - (j : Int)) = (e : Int) := by omega
          rw [hee] at hi
          subst hi
          have hbe : (be8 (b.length * 8)).take (j + 1) = (be8 (b.length * 8)).take j ++ [(b.length * 8 / 2 ^ (8 * e)) % 256] := by
            rw [List.take_succ_eq_append_getElem (by rw [be8_len]; exact hj8)]
            congr 2
            simp [be8, he, Nat.shiftRight_eq_div_pow, show 56 - 8 * j = 8 * (7 - j) from by omega]
          have HBE := Lib.hid hbe
          have HEE := Lib.hid hee
          have hzb : b.length + 1 + z + j ≤ 90200 := by have h1 := HZ.out; have h2 := HZZ.out; omega
          clear hbe he hee
          have hxe : u8s [b.length * 8 / 2 ^ (8 * e) % 256] = [Value.int .u8 ((b.length : Int) * 8 / 2 ^ (8 * e) % 256)] := by simp [u8s]
          have HXE := Lib.hid hxe; clear hxe
          go_wp2_with (at_builtin; go_must (refine wp_appQ rfl (.tmp 27) (.tmp 34) 38 38 rfl w.heap.size 5 i0 (.int .u8 0) 1 1 (by kernel_rfl) HI0.out HZ0.out HZ1.out HZ2.out rfl _ (b.length + 1 + z + j) _ rfl (HO5.out.alloc _) _ 1 [Value.int .u8 ((b.length : Int) * 8 / 2 ^ (8 * e) % 256)] rfl (Src.ofRd (e' := 5) (by kernel_rfl) rdv_new rfl (by decide) (fun y hy => by rw [List.mem_singleton.1 hy]; rfl)) (by unfold maxLen; omega) (by omega) (Nat.le_trans HB5.out.size (by simp)) ?_); intro v3 w3 h1 h2 h3; (have hb3 := below_app (hb := HB5.out.alloc HB5.out.size _) (HO5.out.alloc _) h2); (have H6 := Lib.hid h1); (have HB6 := Lib.hid hb3); clear h1 h2 h3 hb3)
          go_roundw
          case rel => exact ⟨j + 1, by omega, congrArg (Value.int .i64) (by have := HEE.out; omega), by have := H6.out; rw [← HXE.out, ← u8s_app, List.append_assoc, ← HBE.out] at this; exact this, HB6.out⟩
          case measure => simp [intOf]
        · obtain rfl : j = 8 := by omega
          rw [show (7 - ((8 : Nat) : Int)) = -1 from rfl] at hi
          subst hi
          have ho5 := HO5.out
          have hpad : padded b = ((b ++ [128]) ++ List.replicate z 0) ++ (be8 (b.length * 8)).take 8 := by
            rw [List.take_of_length_le (by rw [be8_len]; exact Nat.le_refl _), HZE.out]; rfl
          have hpl : (padded b).length = b.length + 1 + z + 8 := by rw [hpad]; simp [be8_len]; omega
          rw [← hpad, ← hpl] at ho5
          rw [← hpl]
          have HO6 := Lib.hid ho5
          clear ho5 hpad
          go_wp2
          go_ret
          exact ⟨_, rfl, HO6.out, HB5.out⟩
    · have hne : ¬ (((b.length + 1 + z) % 64 : Nat) : Int) = 56 := by omega
      have hz1 : gk ≠ 0 := by have h1 := HZ.out; have h2 := HZZ.out; omega
      have hzb : b.length + 1 + z ≤ 90100 := by have h1 := HZ.out; have h2 := HZZ.out; omega
      go_wp2_with (at_builtin; go_must (refine wp_appQ rfl (.tmp 16) (.tmp 17) 38 38 rfl w.heap.size 5 i0 (.int .u8 0) 1 1 (by kernel_rfl) HI0.out HZ0.out HZ1.out HZ2.out rfl _ (b.length + 1 + z) _ rfl (HO.out.alloc _) _ 1 (u8s [0]) rfl (Src.ofRd (e' := 5) (by kernel_rfl) rd1_new (by rw [u8s_len]; rfl) (by decide) (u8s_one1 _)) (by unfold maxLen; omega) (by omega) (Nat.le_trans HB.out.size (by simp)) ?_); intro v3 w3 h1 h2 h3; (have hb3 := below_app (hb := HB.out.alloc HB.out.size _) (HO.out.alloc _) h2); (have H5 := Lib.hid h1); (have HB5 := Lib.hid hb3); clear h1 h2 h3 hb3)
      go_roundg (gk - 1)
      case measure => omega
      case rel => exact ⟨z + 1, by have h1 := HZ.out; omega, by have := H5.out; rw [← u8s_app] at this; rw [List.replicate_succ', ← List.append_assoc]; exact this, HB5.out⟩
end Go.Proofs.Ytjpimfbkdighfaa
