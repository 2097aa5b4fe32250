import Derived.Test.YtjpimfbkdighfaaRC
namespace Go.Proofs.Ytjpimfbkdighfaa
open Go.RowKit

theorem OQ.sub {w : World} {base g off n c : Nat} {D : List Nat} (h : OQ w base 1 (.slice (some ⟨g, off, none⟩) n c) n (u8s D)) {i : Nat} (hi : i + 64 ≤ n) : Rd w (.slice (some ⟨g, off + i, none⟩) 64 (c - i)) 64 (u8s ((D.drop i).take 64)) := by
  obtain ⟨h1, ⟨h2, _⟩ | ⟨g', off', cap', h2, r1, r2, r3, r4, r5, r6⟩⟩ := h
  · cases h2
  · cases h2
    refine ⟨_, _, rfl, by omega, .inr ⟨_, _, rfl, fun j u hu => ?_⟩⟩
    have : j < (u8s ((D.drop i).take 64)).length := (List.getElem?_eq_some_iff.1 hu).1
    rw [Nat.add_assoc]
    refine r6 (i + j) u ?_
    rw [← hu]
    simp only [u8s, List.map_take, List.length_take, List.map_drop] at this ⊢
    rw [List.getElem?_take, if_pos (by omega), List.getElem?_drop]
theorem hsN_zero (K H P : List Nat) : hsN K H P 0 = H := rfl
theorem padded_len (b : List Nat) : (padded b).length = 64 * ((b.length + 72) / 64) := by
  simp [padded, be8_len, zs]; omega
theorem Own1.app1 {w wr w' : World} {N n : Nat} {t : TypeId} {cs xs : List Value} {v : Value} (h : Own1 w N t cs wr) (ho : OQ wr (N + 1) 1 v n xs) (hg : wr.grownBy w' v.ownBlock) : Own1 w N t cs w' :=
  ⟨(hg.block N (heap_lt h.blk) (fun e => by have := (ho.lt N e.symm).1; omega)).trans h.blk, h.bel.trans ⟨hg.os, hg.tape, hg.output, hg.size, fun k hk => hg.block k (by have := heap_lt h.blk; omega) (fun e => by have := (ho.lt k e.symm).1; omega)⟩⟩
theorem Own1.qt {w wr w' : World} {N : Nat} {t : TypeId} {cs : List Value} (h : Own1 w N t cs wr) (hq : Qt wr w') : Own1 w N t cs w' := h.below hq

set_option maxRecDepth 100000 in
set_option maxHeartbeats 1000000 in
theorem ofR_any (xss : List (List Nat)) (v : Value) (w : World) (hv : Parts w v xss) (hn : xss.length ≤ 80000) (hl : xss.flatten.length ≤ 80000) :
    Calls Try.prog 11 #[v] w fun e w' => e = .returned (.agg (u8s (sha xss.flatten)).toArray) ∧ Qt w w' := by
  obtain ⟨⟨vs, hvs, hvl, hvr⟩, hlt⟩ := hv
  obtain ⟨a, c, rfl, hc, h0⟩ := hvs
  obtain ⟨S, hS⟩ : ∃ S, S = xss.flatten := ⟨_, rfl⟩
  have hSlt : ∀ x ∈ S, x < 256 := by
    intro x hx
    rw [hS] at hx
    obtain ⟨l, hl1, hl2⟩ := List.mem_flatten.1 hx
    exact hlt l hl1 x hl2
  rw [← hS] at hl ⊢
  obtain ⟨i0, hi0, hz0, hz1, hz2⟩ := info_parts (P := Try.prog) (e := 5) (z := .int .u8 0) (size := 1) (bytes := 1) (by kernel_rfl)
  have HI0 := Lib.hid hi0
  have HZ0 := Lib.hid hz0
  have HZ1 := Lib.hid hz1
  have HZ2 := Lib.hid hz2
  have HSF := Lib.hid hS; clear hS
  have HSL := Lib.hid hSlt; clear hSlt
  have HVR := Lib.hid hvr; clear hvr
  have HVL := Lib.hid hvl; clear hvl
  have H0 := Lib.hid h0; clear h0
  have HFL := Lib.hid hl; clear hl
  clear hi0 hz0 hz1 hz2 hlt
  have hO0 : Own1 w w.heap.size 27 (u8s (List.replicate 32 0)) (w.alloc (.cells (u8s (List.replicate 32 0)).toArray 27)) := ⟨heap_alloc_new w _, (Below.refl _ _).alloc (Nat.le_refl _) _⟩
  have HO0 := Lib.hid hO0; clear hO0
  go_enter Try.func11, Try.ntmps11
  go_wp2_with fail
  go_loopw [3, 4] (fun o i wr => ∃ k n : Nat, k ≤ xss.length ∧ i = .int .i64 (k : Nat) ∧ n = (xss.take k).flatten.length ∧ OQ wr (w.heap.size + 1) 1 o n (u8s (xss.take k).flatten) ∧ Own1 w w.heap.size 27 (u8s (List.replicate 32 0)) wr) (fun _ i _ => xss.length - (intOf i).toNat)
  case atStart => exact ⟨0, 0, Nat.zero_le _, rfl, rfl, OQ.nil _ _ _, HO0.out⟩
  case round =>
    obtain ⟨k, n, hk, rfl, hnn, ho, hO⟩ := hrel
    obtain ⟨a3, c3, rfl⟩ := ho.slice
    have HN := Lib.hid hnn; clear hnn
    have HO := Lib.hid ho
    have HW := Lib.hid hO
    clear ho hO
    by_cases hlt : k < xss.length
    · obtain ⟨xs, hxs⟩ : ∃ xs, xs = xss[k] := ⟨_, rfl⟩
      have hxk : xss[k]? = some xs := by rw [List.getElem?_eq_getElem hlt, hxs]
      obtain ⟨u, hu, hur⟩ := HVR.out k xs hxk
      obtain ⟨b, off, rfl, hcell⟩ : ∃ b off, a = some ⟨b, off, none⟩ ∧ w.cell? ⟨b, off + k, none⟩ = some u := by
        rcases H0.out with rfl | ⟨b, off, rfl, g⟩
        · simp at hu
        · exact ⟨b, off, rfl, g k _ hu⟩
      have c0 : wr.cell? ⟨b, off + k, none⟩ = some u := (HW.out.bel.cell (p := ⟨b, off + k, none⟩) (blk_of_cell hcell)).trans hcell
      have hst : (xss.take (k + 1)).flatten = (xss.take k).flatten ++ xs := by rw [List.take_succ_eq_append_getElem hlt, List.flatten_append, hxs]; simp
      have hln : (xss.take (k + 1)).flatten.length ≤ 80000 := by have := take_flat xss (k + 1); have h2 := HFL.out; rw [HSF.out] at h2; omega
      have hln2 : n + xs.length ≤ 80000 := by rw [HN.out]; rw [hst, List.length_append] at hln; exact hln
      have hrd := hur.below HW.out.bel
      have HRD := Lib.hid hrd
      have HST := Lib.hid hst
      clear hst hur hu hxk hxs hcell hln hrd
      go_wp2_with (at_builtin; go_must (refine wp_appQ rfl (.tmp 16) (.tmp 20) 38 38 rfl (w.heap.size + 1) 5 i0 (.int .u8 0) 1 1 (by kernel_rfl) HI0.out HZ0.out HZ1.out HZ2.out rfl _ _ _ rfl HO.out _ xs.length (u8s xs) rfl (Src.ofRd (e' := 5) (by kernel_rfl) HRD.out (by rw [u8s_len, Nat.mul_one]) (by decide) (u8s_one1 _)) (by unfold maxLen; omega) (by omega) (heap_lt HW.out.blk) ?_); intro v3 w3 h1 h2 h3; (have h4 := Own1.app1 HW.out HO.out h2); (have H1 := Lib.hid h1); (have H4 := Lib.hid h4); clear h1 h2 h3 h4)
      have h1 := H1.out
      rw [← u8s_app, ← HST.out] at h1
      go_roundw
      case rel => exact ⟨k + 1, n + xs.length, by omega, by go_num, by rw [HST.out, List.length_append, HN.out], h1, H4.out⟩
      case measure => simp [intOf]; omega
    · obtain rfl : k = xss.length := by omega
      have ho := HO.out
      have hnn := HN.out
      rw [List.take_length, ← HSF.out] at ho hnn
      subst hnn
      clear HN
      have HO1 := Lib.hid ho
      clear ho HO HVR HVL H0 HSF hlt
      obtain ⟨wo, hwo⟩ : ∃ wo : World, wo = wr := ⟨_, rfl⟩
      subst hwo
      have hfl := HFL.out
      have hpad := fun w1 (hq : Qt wo w1) => padR_any S HSL.out (by omega) _ w1 (Rd.of_OQ (HO1.out.below hq))
      have HPAD := Lib.hid hpad; clear hpad
      obtain ⟨P, hP⟩ : ∃ P, P = padded S := ⟨_, rfl⟩
      have hPl : P.length = 64 * ((S.length + 72) / 64) := by rw [hP]; exact padded_len S
      have hPlt : ∀ x ∈ P, x < 256 := by
        intro x hx
        rw [hP, padded] at hx
        simp only [List.mem_append, List.mem_singleton, List.mem_replicate, be8, List.mem_map] at hx
        rcases hx with ((hx | rfl) | ⟨_, rfl⟩) | ⟨j, _, rfl⟩
        · exact HSL.out x hx
        · decide
        · decide
        · exact Nat.mod_lt _ (by decide)
      have hsha : sha S = hashB (hsN KS HS P ((S.length + 72) / 64)) := by
        unfold sha hsOf
        rw [← hP, hPl, show 64 * ((S.length + 72) / 64) / 64 = (S.length + 72) / 64 from by omega]
      have HSHA := Lib.hid hsha
      generalize hq : (S.length + 72) / 64 = q at *
      have hq5 : q ≤ 1300 := by omega
      have hq1 : 1 ≤ q := by omega
      have HPL := Lib.hid hPl
      have HPLT := Lib.hid hPlt
      have HPP := Lib.hid hP
      clear hPl hPlt hP hsha hq
      go_wp2_with (first
        | (go_at_call 25; refine (numbersR_any _).mono ?_; rintro e w1 ⟨r1, r2, rfl, q1, q2, q3⟩; (have N1 := Lib.hid q1); (have N2 := Lib.hid q2); (have N3 := Lib.hid q3); clear q1 q2 q3)
        | (go_at_call 26; refine (HPAD.out _ N3.out).mono ?_; rintro e w2 ⟨r3, rfl, q1, q2⟩; rw [← HPP.out, HPL.out] at q1; obtain ⟨a6, c6, rfl⟩ := q1.slice; (have Q1 := Lib.hid q1); (have Q2 := Lib.hid q2); clear q1 q2))
      obtain ⟨g6, o6, rfl⟩ := Q1.out.some_of (by omega)
      have hc6 := Q1.out.lenCap
      have hw2 := (HW.out.qt N3.out).qt Q2.out
      have W2 := Lib.hid hw2
      have N4 := Lib.hid (N2.out.below Q2.out)
      have N5 := Lib.hid (N1.out.below Q2.out)
      clear hw2
      clear HPAD N1 N2 HPP HO1 HW HSL HFL HO0
      go_loopw [5, 7] (fun h i wr => ∃ j e : Nat, j ≤ q ∧ e = 64 * j ∧ i = .int .i64 (e : Nat) ∧ Rd wr h 8 ((hsN KS HS P j).map u32v) ∧ Below w2.heap.size w2 wr) (fun _ i _ => 64 * q - (intOf i).toNat)
      case atStart => exact ⟨0, 0, by omega, rfl, rfl, by rw [hsN_zero]; exact N5.out, Below.refl _ _⟩
      case round =>
        obtain ⟨j, e, hj, he, rfl, hh, hb⟩ := hrel
        have hx := hh
        obtain ⟨ha, hcp, rfl, hh8, -⟩ := hx
        have HH := Lib.hid hh
        have HB := Lib.hid hb
        have HE := Lib.hid he
        clear hh hb
        by_cases hjq : j < q
        · have he2 : e + 64 ≤ 64 * q := by omega
          have hrow := rowR_any (hsN KS HS P j) KS ((P.drop e).take 64) (hsN_ok HS_len HS_lt j).1 (hsN_ok HS_len HS_lt j).2 KS_len KS_lt (fun x hx => HPLT.out x (List.mem_of_mem_drop (List.mem_of_mem_take hx))) (by rw [List.length_take, List.length_drop, HPL.out]; omega) _ _ _ _ HH.out (N4.out.below HB.out) ((Q1.out.below HB.out).sub he2)
          have HROW := Lib.hid hrow
          have hst : hsN KS HS P (j + 1) = rowH KS (hsN KS HS P j) ((P.drop e).take 64) := by rw [he]; rfl
          have HST := Lib.hid hst
          clear hrow hst he
          go_wp2_with (go_at_call 27; refine HROW.out.mono ?_; rintro e w3 ⟨r, rfl, q1, q2⟩; (have Q5 := Lib.hid (Rd.of_OQ q1)); (have Q6 := Lib.hid (HB.out.trans (q2.mono HB.out.size))); clear q1 q2)
          go_roundw
          case rel => exact ⟨j + 1, e + 64, by omega, by have := HE.out; omega, by go_num, by rw [HST.out]; exact Q5.out, Q6.out⟩
          case measure => simp [intOf]; omega
        · obtain rfl : j = q := by omega
          have HOK := Lib.hid (hsN_ok (buf := P) (K := KS) HS_len HS_lt j)
          obtain ⟨H, hH⟩ : ∃ H, H = hsN KS HS P j := ⟨_, rfl⟩
          have hsh := HSHA.out
          have hok := HOK.out
          have hh := HH.out
          rw [← hH] at hsh hok hh
          have hew : e = 64 * j := he
          clear he hH HOK HSHA HH
          have HEW := Lib.hid hew
          obtain ⟨hg, ho, rfl, hcell⟩ : ∃ g o, ha = some ⟨g, o, none⟩ ∧ ∀ k, k < 8 → wr.cell? ⟨g, o + k, none⟩ = some (.int .u32 (H.getD k 0 : Nat)) := by
            obtain ⟨a, c, hv, _, h | ⟨g, o, rfl, h⟩⟩ := hh
            · exact absurd (congrArg List.length h) (by rw [List.length_map, hok.1]; decide)
            · cases hv
              exact ⟨g, o, rfl, fun k hk => h k _ (by have := hok.1; rw [List.getElem?_map, List.getD_eq_getElem?_getD, List.getElem?_eq_getElem (by omega)]; rfl)⟩
          have HC := Lib.hid hcell
          have HK := Lib.hid hok
          have HS2 := Lib.hid hsh
          clear hcell hok hsh hh hew
          have i1 : ¬ (e : Int) < 64 * (j : Int) := by have := HEW.out; omega
          go_wp2_with fail
          obtain ⟨wz, hwz⟩ : ∃ wz : World, wz = wr := ⟨_, rfl⟩
          subst hwz
          have hO3 : Own1 wz wz.heap.size 27 (u8s (hTo H 0)) (wz.alloc (.cells (u8s (hTo H 0)).toArray 27)) := ⟨heap_alloc_new wz _, (Below.refl _ _).alloc (Nat.le_refl _) _⟩
          have HO3 := Lib.hid hO3; clear hO3
          go_loopw [9] (fun i wr => ∃ k : Nat, k ≤ 32 ∧ i = .int .i64 k ∧ Own1 wz wz.heap.size 27 (u8s (hTo H k)) wr) (fun i _ => 32 - (intOf i).toNat)
          case atStart => exact ⟨0, by omega, rfl, HO3.out⟩
          case round =>
            obtain ⟨k, hk, rfl, hO⟩ := hrel
            have HO2 := Lib.hid hO; clear hO
            by_cases h32 : k < 32
            · have hs := hTo_step H h32
              have HS := Lib.hid hs; clear hs
              have s0 : wr.cell? ⟨hg, ho + k / 4, none⟩ = some (.int .u32 (H.getD (k / 4) 0 : Nat)) := (HO2.out.bel.cell (p := ⟨hg, ho + k / 4, none⟩) (blk_of_cell (HC.out (k / 4) (by omega)))).trans (HC.out (k / 4) (by omega))
              have hx : H.getD (k / 4) 0 < 4294967296 := by
                rw [List.getD_eq_getElem?_getD, List.getElem?_eq_getElem (by rw [HK.out.1]; omega)]; exact HK.out.2 _ (List.getElem_mem _)
              have s1 : wr.cell? ⟨wz.heap.size, k, none⟩ = some (.int .u8 0) := by
                rw [cell_blk HO2.out.blk, u8s, List.getElem?_map, hTo_get _ _ h32, if_neg (by omega)]; rfl
              have f1 : wr.frozen? ⟨wz.heap.size, k, none⟩ = false := frozen_blk HO2.out.blk _
              have hbk : hb H k = (H.getD (k / 4) 0 >>> (24 - k % 4 * 8)) % 256 := rfl
              have HBK := Lib.hid hbk; clear hbk
              generalize H.getD (k / 4) 0 = x at *
              go_wp2_with fail
              have hO3 := HO2.out.set k (.int .u8 (hb H k : Nat))
              rw [u8s_set, HS.out] at hO3
              have e : Value.int .u8 ((hb H k : Nat) : Int) = Value.int .u8 ((x : Int) / 2 ^ (24 - 8 * (k % 4)) % 256) := by rw [HBK.out, Nat.shiftRight_eq_div_pow, Nat.mul_comm (k % 4) 8]; simp
              rw [e] at hO3
              refine ⟨⟨k + 1, by omega, by go_num, hO3⟩, ?_⟩
              simp [intOf]; omega
            · obtain rfl : k = 32 := by omega
              have hO2 := HO2.out
              rw [hTo_full, ← HS2.out] at hO2
              have HO7 := Lib.hid hO2
              have h1 := u8s_one (sha S)
              have H1 := Lib.hid h1
              have hw2 : Own1 w w.heap.size 27 (u8s (List.replicate 32 0)) wr := (W2.out.below HB.out).below HO7.out.bel
              have HW2 := Lib.hid hw2
              have hi : ((Try.prog).info? 27).map (·.size) = some (u8s (sha S)).toArray.size := by rw [List.size_toArray, u8s, List.length_map, sha, hashB_len]; kernel_rfl
              have hoz : (u8s (List.replicate 32 0)).toArray.size = (u8s (sha S)).toArray.size := by rw [List.size_toArray, List.size_toArray, u8s, u8s, List.length_map, List.length_map, sha, hashB_len, List.length_replicate]
              have HI := Lib.hid hi
              have HOZ := Lib.hid hoz
              clear HO2 hO2 h1 hw2 hi hoz HS2
              go_wp2_with (first
                | (refine wpList_load_row rfl 27 (.tmp 8) rfl wz.heap.size rfl 27 _ (0, 0) (.array 32 5) HO7.out.blk (by kernel_rfl) rfl HI.out ?_)
                | (refine wpList_store_row rfl 27 (.tmp 2) (.tmp 60) rfl w.heap.size (u8s (sha S)).toArray rfl rfl 27 _ HW2.out.blk HI.out HOZ.out H1.out ?_))
              refine bodyPost_ret (v := .agg (u8s (sha S)).toArray) (results_cell_row rfl _ _ w.heap.size _ _ _ (.array 32 5) rfl (setRow_heap _ _ _ _ _ _ HW2.out.blk) (by kernel_rfl) rfl HI.out) rfl ⟨rfl, ?_⟩
              exact below_setRow HW2.out.bel (Nat.le_refl _) _

theorem parts_one {w : World} {t : TypeId} {g : Nat} {v : Value} {b : List Nat} (hg : g = w.heap.size) (hv : Rd w v b.length (u8s b)) (hb : ∀ x ∈ b, x < 256) : Parts (w.alloc (.cells #[v] t)) (.slice (some ⟨g, 0, none⟩) 1 1) [b] := by
  subst hg
  refine ⟨⟨[v], rdv_new, rfl, fun j x hx => ?_⟩, fun x hx => by rw [List.mem_singleton.1 hx]; exact hb⟩
  match j, hx with
  | 0, hx => cases hx; exact ⟨v, rfl, hv.al _⟩

set_option maxRecDepth 100000 in
set_option maxHeartbeats 1000000 in
theorem oneR_any (b : List Nat) (v : Value) (w : World) (hv : Rd w v b.length (u8s b)) (hb : ∀ x ∈ b, x < 256) (hl : b.length ≤ 80000) :
    Calls Try.prog 17 #[v] w fun e w' => e = .returned (.agg (u8s (sha b)).toArray) ∧ Qt w w' := by
  obtain ⟨va, vc, rfl, hvc⟩ : ∃ a c, v = .slice a b.length c ∧ True := by obtain ⟨a, c, rfl, _⟩ := hv; exact ⟨a, c, rfl, trivial⟩
  have hc : ∀ u, u = (w.alloc (.cells (u8s (List.replicate 32 0)).toArray 27)) → Calls Try.prog 11 #[.slice (some ⟨w.heap.size + 1, 0, none⟩) 1 1] (u.alloc (.cells #[.slice va b.length vc] 38)) fun e w' => e = .returned (.agg (u8s (sha b)).toArray) ∧ Own1 w w.heap.size 27 (u8s (List.replicate 32 0)) w' := by
    rintro u rfl
    refine (ofR_any [b] _ _ (parts_one (by simp) (hv.al _) hb) (by simp) (by simpa using hl)).mono ?_
    rintro e w' ⟨rfl, q⟩
    have hO0 : Own1 w w.heap.size 27 (u8s (List.replicate 32 0)) (w.alloc (.cells (u8s (List.replicate 32 0)).toArray 27)) := ⟨heap_alloc_new w _, (Below.refl _ _).alloc (Nat.le_refl _) _⟩
    exact ⟨by simp, (hO0.al _).below q⟩
  have HC := Lib.hid (hc _ rfl)
  have hi : ((Try.prog).info? 27).map (·.size) = some (u8s (sha b)).toArray.size := by rw [List.size_toArray, u8s, List.length_map, sha, hashB_len]; kernel_rfl
  have hoz : (u8s (List.replicate 32 0)).toArray.size = (u8s (sha b)).toArray.size := by rw [List.size_toArray, List.size_toArray, u8s, u8s, List.length_map, List.length_map, sha, hashB_len, List.length_replicate]
  have H1 := Lib.hid (u8s_one (sha b))
  have HI := Lib.hid hi
  have HOZ := Lib.hid hoz
  clear hc hi hoz hv hb
  go_enter Try.func17, Try.ntmps17
  go_wp2_with (first
    | (go_at_call 11; refine HC.out.mono ?_; rintro e w2 ⟨rfl, q⟩; (have HW2 := Lib.hid q); clear q)
    | (refine wpList_store_row rfl 27 (.tmp 2) (.tmp 5) rfl w.heap.size (u8s (sha b)).toArray rfl rfl 27 _ HW2.out.blk HI.out HOZ.out H1.out ?_))
  refine bodyPost_ret (v := .agg (u8s (sha b)).toArray) (results_cell_row rfl _ _ w.heap.size _ _ _ (.array 32 5) rfl (setRow_heap _ _ _ _ _ _ HW2.out.blk) (by kernel_rfl) rfl HI.out) rfl ⟨rfl, ?_⟩
  exact below_setRow HW2.out.bel (Nat.le_refl _) _
end Go.Proofs.Ytjpimfbkdighfaa
