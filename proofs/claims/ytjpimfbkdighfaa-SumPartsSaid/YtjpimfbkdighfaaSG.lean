import Derived.Test.YtjpimfbkdighfaaSF
namespace Go.Proofs.Ytjpimfbkdighfaa
open Go.RowKit

theorem wpList_built2 {P : Program} {ops : Array Oper} {rest : List Oper} {o : Oper} {a : Act} {w : World} {Q : Exit → Act → World → Prop} (hg : o.guard = none) (t : TypeId) (x y : Operand) (ho : o.op = .build t #[(0, x), (1, y)])
    (vx vy : Value) (hx : a.eval x = vx) (hy : a.eval y = vy) (cs : Array Value) (hf : P.built t [(0, vx), (1, vy)] = some cs) (h : wpList P ops Q rest (a.put o.dst (.agg cs)) w) : wpList P ops Q (o :: rest) a w := by
  have e : P.built t ((#[(0, x), (1, y)] : Array (Nat × Operand)).map fun (i, x) => (i, a.eval x)).toList = some cs := by simp [hx, hy, hf]
  exact wpList_build hg t _ ho (by rw [e]; rfl) (by rw [e]; exact h)
theorem wk_built : Try.prog.built 54 [(0, .agg (HS.map u32v).toArray), (1, .agg (KS.map u32v).toArray)] = some (wk HS KS (.slice none 0 0) 0).toArray := by kernel_rfl

theorem Wk.start (w : World) : Wk w.heap.size HS KS [] 0 (.slice none 0 0) (w.alloc (.cells (wk HS KS (.slice none 0 0) 0).toArray 54)) :=
  ⟨HS_len, HS_lt, KS_len, KS_lt, (fun x hx => by cases hx), heap_alloc_new w _, OQ.nil _ _ _⟩

theorem hsOf_nil : hsOf [] = HS := rfl
theorem tailOf_nil : tailOf [] = [] := rfl
theorem take_flat (xss : List (List Nat)) (k : Nat) : (xss.take k).flatten.length ≤ xss.flatten.length := by
  have h : xss.flatten = (xss.take k).flatten ++ (xss.drop k).flatten := by rw [← List.flatten_append, List.take_append_drop]
  rw [h, List.length_append]; omega

theorem Wk.al {G : Nat} {H K buf : List Nat} {m : Nat} {lv : Value} {w : World} (h : Wk G H K buf m lv w) (o : Obj) : Wk G H K buf m lv (w.alloc o) :=
  ⟨h.h8, h.hb, h.k64, h.kb, h.bb, (Below.heap_alloc w o G (heap_lt h.blk)).trans h.blk, h.left.alloc o⟩
theorem put1 (S : List Nat) (x : Nat) (hx : x < 256) (lv : Value) (m : Nat) (w : World) (G : Nat) (hw : Wk G (hsOf S) KS (tailOf S) m lv w) (hm : m ≤ 99999999) :
    Calls Try.prog 23 #[.pointer (some ⟨G, 0, none⟩), .slice (some ⟨w.heap.size, 0, none⟩) 1 1] (w.alloc (.cells #[.int .u8 (x : Int)] 5)) fun e w' =>
      e = .returned (.tuple #[]) ∧ Below G w w' ∧ ∃ lv', Wk G (hsOf (S ++ [x])) KS (tailOf (S ++ [x])) (m + 1) lv' w' := by
  have hG := heap_lt hw.blk
  have hrd : Rd (w.alloc (.cells #[.int .u8 (x : Int)] 5)) (.slice (some ⟨w.heap.size, 0, none⟩) 1 1) [x].length (u8s [x]) :=
    ⟨_, _, rfl, Nat.le_refl _, .inr ⟨_, _, rfl, fun j u hu => by
      rw [World.cell?_alloc_new]
      match j, hu with
      | 0, hu => exact hu⟩⟩
  refine (put_st S [x] lv _ m _ G G (Nat.le_refl _) (hw.al _) (by simpa using hx) (by simp) (by simp; omega) hrd (.inr (by simp [Value.ownBlock]; omega))).mono ?_
  rintro e w' ⟨rfl, q, h⟩
  exact ⟨rfl, ((Below.refl G w).alloc (Nat.le_of_lt hG) _).trans q, h⟩

set_option maxRecDepth 100000 in
set_option maxHeartbeats 4000000 in
theorem of_any (xss : List (List Nat)) (v : Value) (w : World) (hv : Parts w v xss) (hn : xss.length ≤ 90000) (hl : xss.flatten.length ≤ 90000) :
    Calls Try.prog 10 #[v] w fun e w' => e = .returned (.agg (u8s (sha xss.flatten)).toArray) ∧ Qt w w' := by
  obtain ⟨⟨vs, hvs, hvl, hvr⟩, hlt⟩ := hv
  obtain ⟨a, c, rfl, hc, h0⟩ := hvs
  obtain ⟨S, hS⟩ : ∃ S, S = xss.flatten := ⟨_, rfl⟩
  rw [← hS]
  have HSF := Lib.hid hS; clear hS
  have HB := Lib.hid wk_built
  have HLT := Lib.hid hlt; clear hlt
  have HVR := Lib.hid hvr; clear hvr
  have HVL := Lib.hid hvl; clear hvl
  have H0 := Lib.hid h0; clear h0
  have HFL := Lib.hid hl; clear hl
  go_enter Try.func10, Try.ntmps10
  go_wp2_with (first
    | (go_at_call 21; refine (begun_any _).mono ?_; rintro e w1 ⟨rfl, q1⟩)
    | (go_at_call 22; refine (constants_any _).mono ?_; rintro e w2 ⟨rfl, q2⟩)
    | (refine wpList_built2 rfl 54 (.tmp 8) (.tmp 9) rfl _ _ rfl rfl (wk HS KS (.slice none 0 0) 0).toArray HB.out ?_))
  obtain ⟨G, hG⟩ : ∃ G, G = w2.heap.size := ⟨_, rfl⟩
  have hw0 := Wk.start w2
  have hq2 : Qt (w.alloc (.cells (u8s (List.replicate 32 0)).toArray 27)) w2 := q1.trans q2
  have hob : w2.heap[w.heap.size]? = some (.cells (u8s (List.replicate 32 0)).toArray 27 (0, 0)) := (hq2.block _ (heap_lt (heap_alloc_new w _))).trans (heap_alloc_new w _)
  have hNG : w.heap.size < G := by rw [hG]; exact heap_lt hob
  have hqw : Qt w w2 := ((Qt.refl w).alloc _).trans hq2
  rw [← hG] at hw0 ⊢
  generalize hwb : w2.alloc (.cells (wk HS KS (.slice none 0 0) 0).toArray 54) = wb at *
  have hqb : Qt w wb := by rw [← hwb]; exact hqw.alloc _
  have hobb : wb.heap[w.heap.size]? = some (.cells (u8s (List.replicate 32 0)).toArray 27 (0, 0)) := by rw [← hwb]; exact (Below.heap_alloc w2 _ _ (heap_lt hob)).trans hob
  clear hwb hqw hob hq2 q1 q2 hG HB
  have HW0 := Lib.hid hw0
  have HQB := Lib.hid hqb
  have HOB := Lib.hid hobb
  clear hw0 hqb hobb
  clear w1 w2
  go_loopw [14] (fun i wr => ∃ k lv, k ≤ xss.length ∧ i = .int .i64 (k : Nat) ∧ Wk G (hsOf (xss.take k).flatten) KS (tailOf (xss.take k).flatten) (xss.take k).flatten.length lv wr ∧ Below G wb wr) (fun i _ => xss.length - (intOf i).toNat)
  case atStart => exact ⟨0, .slice none 0 0, Nat.zero_le _, rfl, by rw [show (xss.take 0).flatten = [] from rfl, hsOf_nil, tailOf_nil]; exact HW0.out, Below.refl _ _⟩
  case round =>
    obtain ⟨k, lv, hk, rfl, hw, hb⟩ := hrel
    have HWr := Lib.hid hw
    have HBr := Lib.hid hb
    clear hw hb
    by_cases hlt : k < xss.length
    · obtain ⟨xs, hxs⟩ : ∃ xs, xs = xss[k] := ⟨_, rfl⟩
      have hxk : xss[k]? = some xs := by rw [List.getElem?_eq_getElem hlt, hxs]
      obtain ⟨u, hu, hur⟩ := HVR.out k xs hxk
      obtain ⟨b, off, rfl, hcell⟩ : ∃ b off, a = some ⟨b, off, none⟩ ∧ w.cell? ⟨b, off + k, none⟩ = some u := by
        rcases H0.out with rfl | ⟨b, off, rfl, g⟩
        · simp at hu
        · exact ⟨b, off, rfl, g k _ hu⟩
      have hqr : Qt w wr := Below.trans HQB.out (HBr.out.mono (Nat.le_of_lt hNG))
      have c0 : wr.cell? ⟨b, off + k, none⟩ = some u := (hqr.cell (p := ⟨b, off + k, none⟩) (blk_of_cell hcell)).trans hcell
      have hst : (xss.take (k + 1)).flatten = (xss.take k).flatten ++ xs := by rw [List.take_succ_eq_append_getElem hlt, List.flatten_append, hxs]; simp
      have hln : (xss.take (k + 1)).flatten.length ≤ 90000 := Nat.le_trans (take_flat xss (k + 1)) HFL.out
      have hput := put_st (xss.take k).flatten xs lv u _ wr G G (Nat.le_refl _) HWr.out (HLT.out xs (List.mem_of_getElem? hxk)) (by rw [hst, List.length_append] at hln; omega) (by rw [hst, List.length_append] at hln; omega) (hur.below hqr) (hur.lies.imp id (fun h => h G (Nat.le_of_lt hNG)))
      have HPUT := Lib.hid hput
      have HST := Lib.hid hst
      clear hput hst hur hu hxk hxs hqr hcell hln
      go_wp2_with (go_at_call 23; refine HPUT.out.mono ?_; rintro e w3 ⟨rfl, q, lv3, h3⟩; (have H3 := Lib.hid h3); clear h3)
      have hq := HBr.out.trans q
      have h3 := H3.out
      rw [← HST.out, ← List.length_append, ← HST.out] at h3
      go_roundw
      case rel => exact ⟨k + 1, lv3, by omega, by go_num, h3, hq⟩
      case measure => simp [intOf]; omega
    · obtain rfl : k = xss.length := by omega
      have hW := HWr.out
      rw [List.take_length, ← HSF.out] at hW
      have s73 : wr.cell? ⟨G, 73, none⟩ = some (.int .u64 (S.length : Int)) := by rw [cell_blk hW.blk]; exact wk_73 hW.h8 hW.k64
      have HW1 := Lib.hid hW
      clear hW HWr HVR H0 HLT HVL
      have hfl := HFL.out
      rw [← HSF.out] at hfl
      clear HSF HFL
      have hS2 : S.length ≤ 90000 := hfl
      clear hfl
      have hp := put1 S 128 (by decide) _ _ wr G HW1.out (by omega)
      have HP := Lib.hid hp; clear hp
      go_wp2_with (go_at_call 23; refine HP.out.mono ?_; rintro e w3 ⟨rfl, q, lv3, h3⟩; (have H3 := Lib.hid h3); clear h3)
      have hb3 : Below G wb w3 := HBr.out.trans q
      have HB3 := Lib.hid hb3
      clear hb3 HP HBr q HW1 s73
      go_loopg [] (zs S.length) (fun n wr => ∃ z lv, n + z = zs S.length ∧ Wk G (hsOf ((S ++ [128]) ++ List.replicate z 0)) KS (tailOf ((S ++ [128]) ++ List.replicate z 0)) (S.length + 1 + z) lv wr ∧ Below G wb wr)
      case atStart => exact ⟨0, lv3, rfl, by rw [List.replicate_zero, List.append_nil]; exact H3.out, HB3.out⟩
      case round =>
        obtain ⟨z, lvv, hz, hw, hb⟩ := hrel
        obtain ⟨T, hT⟩ : ∃ T, T = (S ++ [128]) ++ List.replicate z 0 := ⟨_, rfl⟩
        rw [← hT] at hw
        have hTl : T.length = S.length + 1 + z := by rw [hT]; simp; omega
        have hzz : zs S.length = (119 - S.length % 64) % 64 := rfl
        obtain ⟨a3, c3, rfl⟩ := hw.left.slice
        have s72 := Wk0.cell72 ⟨hw.h8, hw.hb, hw.k64, hw.kb, hw.bb, hw.blk⟩
        have htl := tailOf_len T
        rw [htl, hTl] at s72
        have HT := Lib.hid hT
        have HTL := Lib.hid hTl
        have HZ := Lib.hid hz
        have HZZ := Lib.hid hzz
        have HWw := Lib.hid hw
        have HBw := Lib.hid hb
        have HTT := Lib.hid htl
        clear hT hTl hz hzz hw hb htl
        by_cases h56 : (S.length + 1 + z) % 64 = 56
        · have hp0 : (T ++ (be8 (S.length * 8)).take 0) = T := by simp
          go_wp2_with fail
          go_loopw [7] (fun i wr => ∃ j lv, j ≤ 8 ∧ i = .int .i64 (56 - 8 * (j : Nat)) ∧ Wk G (hsOf (T ++ (be8 (S.length * 8)).take j)) KS (tailOf (T ++ (be8 (S.length * 8)).take j)) (S.length + 1 + z + j) lv wr ∧ Below G wb wr) (fun i _ => (intOf i + 8).toNat)
          case atStart => exact ⟨0, .slice a3 (tailOf T).length c3, by omega, rfl, by rw [hp0]; exact HWw.out, HBw.out⟩
          case round =>
            obtain ⟨j, lv5, hj, hi, hw, hb⟩ := hrel
            have HW5 := Lib.hid hw
            have HB5 := Lib.hid hb
            clear hw hb
            by_cases hj8 : j < 8
            · obtain ⟨e, he⟩ : ∃ e : Nat, e = 56 - 8 * j := ⟨_, rfl⟩
              have he56 : e ≤ 56 := by omega
              have hee : (56 - 8 * (j : Int)) = (e : Int) := by omega
              rw [hee] at hi
              subst hi
              have HEE := Lib.hid hee
              have hbe : (be8 (S.length * 8)).take (j + 1) = (be8 (S.length * 8)).take j ++ [(S.length * 8 / 2 ^ e) % 256] := by
                rw [List.take_succ_eq_append_getElem (by rw [be8_len]; exact hj8)]
                congr 2
                simp [be8, he, Nat.shiftRight_eq_div_pow]
              have hp := put1 (T ++ (be8 (S.length * 8)).take j) ((S.length * 8 / 2 ^ e) % 256) (Nat.mod_lt _ (by decide)) _ _ _ G HW5.out (by have h1 := HZ.out; have h2 := HZZ.out; omega)
              have hxx : (((S.length * 8 / 2 ^ e % 256 : Nat)) : Int) = (S.length : Int) * 8 / 2 ^ e % 256 := by simp
              rw [List.append_assoc, ← hbe, hxx] at hp
              clear hxx
              have HP := Lib.hid hp
              have HE := Lib.hid he
              clear hp hbe he hee
              go_wp2_with (go_at_call 23; refine HP.out.mono ?_; rintro e w6 ⟨rfl, q, lv6, h6⟩; (have H6 := Lib.hid h6); clear h6)
              have hq := HB5.out.trans q
              go_roundw
              case rel => exact ⟨j + 1, lv6, by omega, congrArg (Value.int .i64) (by have := HEE.out; omega), H6.out, hq⟩
              case measure => simp [intOf]; have := HEE.out; omega
            · obtain rfl : j = 8 := by omega
              rw [show (56 - 8 * ((8 : Nat) : Int)) = -8 from rfl] at hi
              subst hi
              have hpad : T ++ (be8 (S.length * 8)).take 8 = padded S := by
                have hz' : z = zs S.length := by have h1 := HZ.out; have h2 := HZZ.out; omega
                rw [List.take_of_length_le (by rw [be8_len]; exact Nat.le_refl _), HT.out, hz']; rfl
              have hw5 := HW5.out
              rw [hpad] at hw5
              have hh := hash_any (hsOf (padded S)) _ hw5.h8 hw5.hb wr G _ hw5.blk
              have HH := Lib.hid hh
              have hb5 := HB5.out
              have HBB := Lib.hid hb5
              clear hh hw5 hpad hb5
              have hi : ((Try.prog).info? 27).map (·.size) = some (u8s (sha S)).toArray.size := by rw [List.size_toArray, u8s, List.length_map, sha, hashB_len]; kernel_rfl
              have ho1 := u8s_one (sha S)
              have hoz : (u8s (List.replicate 32 0)).toArray.size = (u8s (sha S)).toArray.size := by rw [List.size_toArray, List.size_toArray, u8s, u8s, List.length_map, List.length_map, sha, hashB_len, List.length_replicate]
              have HI := Lib.hid hi
              have HO1 := Lib.hid ho1
              have HOZ := Lib.hid hoz
              clear hi ho1 hoz
              go_wp2_with (first
                | (go_at_call 24; refine HH.out.mono ?_; rintro e w6 ⟨rfl, q6⟩; (have hob6 := (q6.block _ (heap_lt ((HBB.out.block _ hNG).trans HOB.out))).trans ((HBB.out.block _ hNG).trans HOB.out)); (have HOB6 := Lib.hid hob6); clear hob6)
                | (refine wpList_store_row rfl 27 (.tmp 2) (.tmp 53) rfl w.heap.size (u8s (sha S)).toArray rfl rfl 27 _ HOB6.out HI.out HOZ.out HO1.out ?_))
              refine bodyPost_ret (v := .agg (u8s (sha S)).toArray) (results_cell_row rfl _ _ w.heap.size _ _ _ (.array 32 5) rfl (setRow_heap _ _ _ _ _ _ HOB6.out) (by kernel_rfl) rfl HI.out) rfl ⟨rfl, ?_⟩
              have hqr : Qt w wr := Below.trans HQB.out (HBB.out.mono (Nat.le_of_lt hNG))
              exact below_setRow (hqr.trans q6) (Nat.le_refl _) _
        · have hne : ¬ (((S.length + 1 + z) % 64 : Nat) : Int) = 56 := by omega
          have hz1 : gk ≠ 0 := by have h1 := HZ.out; have h2 := HZZ.out; omega
          have hp := put1 T 0 (by decide) _ _ wr G HWw.out (by have h1 := HZ.out; have h2 := HZZ.out; omega)
          have HP := Lib.hid hp; clear hp
          go_wp2_with (go_at_call 23; refine HP.out.mono ?_; rintro e w4 ⟨rfl, q, lv4, h4⟩; (have H4 := Lib.hid h4); clear h4)
          go_roundg (gk - 1)
          case measure => omega
          case rel => exact ⟨z + 1, lv4, by have h1 := HZ.out; omega, by rw [List.replicate_succ', ← List.append_assoc, ← HT.out, show S.length + 1 + (z + 1) = S.length + 1 + z + 1 from rfl]; exact H4.out, HBw.out.trans q⟩
end Go.Proofs.Ytjpimfbkdighfaa
