import Derived.Test.YtjpimfbkdighfaaSG
namespace Go.Proofs.Ytjpimfbkdighfaa
open Go.RowKit

theorem rrR_int (x n : Nat) (hx : x < 4294967296) : bits .or .u32 ((x : Int) / 2 ^ n) ((x : Int) * 2 ^ (32 - n) % 4294967296) = (rr x n : Nat) := by
  have e1 : ((x : Int) * 2 ^ (32 - n) % 4294967296) = ((x * 2 ^ (32 - n) % 4294967296 : Nat) : Int) := by simp
  have e2 : ((x : Int) / 2 ^ n) = ((x / 2 ^ n : Nat) : Int) := by simp
  rw [e1, e2, u32_or_nat _ _ (Nat.lt_of_le_of_lt (Nat.div_le_self _ _) hx) (Nat.mod_lt _ (by decide)), Nat.or_comm]
  unfold rr
  rw [Nat.shiftLeft_eq, Nat.shiftRight_eq_div_pow]

theorem turnedR_any (x : Nat) (m : Int) (hx : x < 4294967296) (h1 : 1 ≤ m) (h2 : m ≤ 31) (w : World) : Calls Try.prog 34 #[.int .u32 (x : Int), .int .u64 m] w fun e w' => e = .returned (.int .u32 (rr x m.toNat : Nat)) ∧ w = w' := by
  obtain ⟨n, rfl⟩ : ∃ n : Nat, m = n := ⟨m.toNat, by omega⟩
  have hr := rrR_int x n hx
  have HR := Lib.hid hr; clear hr
  go_enter Try.func34, Try.ntmps34
  go_wp2
  go_ret
  exact ⟨by rw [show ((n : Int)).toNat = n from rfl, ← HR.out]; rfl, rfl⟩

theorem trn2 (x a b : Nat) : trn x [a, b] = rr x a ^^^ rr x b := by simp [trn]
theorem trn3 (x a b c : Nat) : trn x [a, b, c] = (rr x a ^^^ rr x b) ^^^ rr x c := by simp [trn]
theorem w4_sum {a b c d : Nat} (_ha : a < 256) (hb : b < 256) (hc : c < 256) (hd : d < 256) : w4 a b c d = a * 16777216 + b * 65536 + c * 256 + d := by
  unfold w4
  have e1 : a <<< 24 ||| b <<< 16 = a <<< 24 + b <<< 16 := (Nat.shiftLeft_add_eq_or_of_lt (by rw [Nat.shiftLeft_eq]; omega) a).symm
  have e2 : a <<< 24 + b <<< 16 = (a * 256 + b) <<< 16 := by simp only [Nat.shiftLeft_eq]; omega
  have e3 : (a * 256 + b) <<< 16 ||| c <<< 8 = (a * 256 + b) <<< 16 + c <<< 8 := (Nat.shiftLeft_add_eq_or_of_lt (by rw [Nat.shiftLeft_eq]; omega) _).symm
  have e4 : (a * 256 + b) <<< 16 + c <<< 8 = (a * 65536 + b * 256 + c) <<< 8 := by simp only [Nat.shiftLeft_eq]; omega
  have e5 : (a * 65536 + b * 256 + c) <<< 8 ||| d = (a * 65536 + b * 256 + c) <<< 8 + d := (Nat.shiftLeft_add_eq_or_of_lt (by omega) _).symm
  rw [e1, e2, e3, e4, e5, Nat.shiftLeft_eq]
  omega

theorem OQ.set {w : World} {base g off n c j : Nat} {xs : List Value} (h : OQ w base 1 (.slice (some ⟨g, off, none⟩) n c) n xs) (hj : j < n) (u : Value) : OQ (w.setCell ⟨g, off + j, none⟩ u) base 1 (.slice (some ⟨g, off, none⟩) n c) n (xs.set j u) := by
  obtain ⟨h1, ⟨h2, _⟩ | ⟨g', off', cap, h2, r1, r2, r3, r4, r5, r6⟩⟩ := h
  · cases h2
  · cases h2
    refine ⟨by simpa using h1, .inr ⟨g, off, c, rfl, r1, by simpa [World.setCell] using r2, r3, r4, fun i hi => ?_, fun i y hy => ?_⟩⟩
    · rw [World.frozen?_setCell]
      refine ⟨?_, (r5 i hi).2⟩
      by_cases e : off + j = off + i
      · rw [e]
        obtain ⟨z, hz⟩ := Option.isSome_iff_exists.1 (r5 i hi).1
        rw [World.cell?_setCell_same _ _ _ hz]; rfl
      · rw [World.cell?_setCell_other _ _ _ _ (by simp)]; exact (r5 i hi).1
    · by_cases e : j = i
      · subst e
        rw [List.getElem?_set_self' ] at hy
        obtain ⟨z, hz⟩ := Option.isSome_iff_exists.1 (r5 j (by omega)).1
        rw [World.cell?_setCell_same _ _ _ hz]
        have : xs[j]? = some xs[j] := List.getElem?_eq_getElem (by omega)
        rw [this] at hy; simpa using hy
      · rw [List.getElem?_set_ne e] at hy
        rw [World.cell?_setCell_other _ _ _ _ (by simp <;> omega)]; exact r6 i y hy

theorem wmixR_int {p q x y : Nat} (lx : x < 4294967296) (ly : y < 4294967296) :
    ((p : Int) + bits .xor .u32 (bits .xor .u32 (rr x 7 : Nat) (rr x 18 : Nat)) ((x : Int) / (8 : Int)) + (q : Int) + bits .xor .u32 (bits .xor .u32 (rr y 17 : Nat) (rr y 19 : Nat)) ((y : Int) / (1024 : Int))) % (4294967296 : Int) = (wmix p q x y : Nat) := by
  have e1 : (x : Int) / (8 : Int) = ((x >>> 3 : Nat) : Int) := by rw [Nat.shiftRight_eq_div_pow]; omega
  have e2 : (y : Int) / (1024 : Int) = ((y >>> 10 : Nat) : Int) := by rw [Nat.shiftRight_eq_div_pow]; omega
  rw [e1, e2, u32_xor_nat _ _ (rr_lt lx _) (rr_lt lx _), u32_xor_nat _ _ (rr_lt ly _) (rr_lt ly _), u32_xor_nat _ _ (xor_lt (rr_lt lx _) (rr_lt lx _)) (shr_lt lx), u32_xor_nat _ _ (xor_lt (rr_lt ly _) (rr_lt ly _)) (shr_lt ly)]
  unfold wmix
  rw [trn2, trn2]
  omega
theorem OQ.emptyNew {w : World} {base : Nat} {t : TypeId} (hb : base ≤ w.heap.size) : OQ (w.alloc (.cells #[] t)) base 1 (.slice (some ⟨w.heap.size, 0, none⟩) 0 0) 0 [] :=
  ⟨rfl, .inr ⟨_, _, _, rfl, hb, by simp, Nat.le_refl _, Nat.zero_le _, fun j hj => absurd hj (by omega), fun j u hu => by simp at hu⟩⟩
theorem Own1.app {w wr w' : World} {N : Nat} {t : TypeId} {cs : List Value} {o : Obj} {n c : Nat} (h : Own1 w N t cs wr) (hg : (wr.alloc o).grownBy w' (Value.slice (some ⟨wr.heap.size, 0, none⟩) n c).ownBlock) : Own1 w N t cs w' := by
  have h2 := h.al o
  have hN := heap_lt h.blk
  refine ⟨(hg.block N (heap_lt h2.blk) (fun e => by simp [Value.ownBlock] at e; omega)).trans h2.blk, h2.bel.trans ⟨hg.os, hg.tape, hg.output, hg.size, fun k hk => hg.block k (by have := heap_lt h2.blk; omega) (fun e => by simp [Value.ownBlock] at e; omega)⟩⟩
theorem OQ.cells {w : World} {base n c : Nat} {a : Option Addr} {xs : List Value} (h : OQ w base 1 (.slice a n c) n xs) (h0 : 0 < n) : ∃ g off, a = some ⟨g, off, none⟩ ∧ ∀ j u, xs[j]? = some u → w.cell? ⟨g, off + j, none⟩ = some u := by
  obtain ⟨_, ⟨_, h2⟩ | ⟨g, off, cap, h2, _, _, _, _, _, h3⟩⟩ := h
  · omega
  · cases h2; exact ⟨_, _, rfl, h3⟩
theorem not_xor {e : Nat} (h : e < 4294967296) : 4294967295 - e = 4294967295 ^^^ e := by
  have e1 : 4294967295 - e = 2 ^ 32 - (e + 1) := by omega
  rw [e1, show 4294967295 = 2 ^ 32 - 1 from rfl]
  apply Nat.eq_of_testBit_eq
  intro i
  rw [Nat.testBit_two_pow_sub_succ h, Nat.testBit_xor, Nat.testBit_two_pow_sub_one]
  by_cases hi : i < 32
  · simp [hi]
  · have : e.testBit i = false := Nat.testBit_lt_two_pow (Nat.lt_of_lt_of_le h (Nat.pow_le_pow_right (n := 2) (by decide) (show 32 ≤ i by omega)))
    simp [hi, this]
theorem rTR_int {kk ww e f g h : Nat} (he : e < 4294967296) (hf : f < 4294967296) (hg : g < 4294967296) :
    ((h : Int) + bits .xor .u32 (bits .xor .u32 (rr e 6 : Nat) (rr e 11 : Nat)) (rr e 25 : Nat) + bits .xor .u32 (bits .and .u32 (e : Int) (f : Int)) (bits .and .u32 ((4294967295 : Int) - (e : Int)) (g : Int)) + (kk : Int) + (ww : Int)) % (4294967296 : Int) = (rT kk ww e f g h : Nat) := by
  have hm : 4294967295 ^^^ e < 4294967296 := xor_lt (by decide) he
  have e1 : (4294967295 : Int) - (e : Int) = ((4294967295 ^^^ e : Nat) : Int) := by rw [← not_xor he]; omega
  rw [e1, u32_and_nat _ _ he hf, u32_and_nat _ _ hm hg, u32_xor_nat _ _ (and_lt he) (and_lt hm), u32_xor_nat _ _ (rr_lt he _) (rr_lt he _), u32_xor_nat _ _ (xor_lt (rr_lt he _) (rr_lt he _)) (rr_lt he _)]
  unfold rT
  rw [trn3]
  omega
theorem rUR_int {a b c : Nat} (ha : a < 4294967296) (hb : b < 4294967296) (hc : c < 4294967296) :
    (bits .xor .u32 (bits .xor .u32 (rr a 2 : Nat) (rr a 13 : Nat)) (rr a 22 : Nat) + bits .xor .u32 (bits .xor .u32 (bits .and .u32 (a : Int) (b : Int)) (bits .and .u32 (a : Int) (c : Int))) (bits .and .u32 (b : Int) (c : Int))) % (4294967296 : Int) = (rU a b c : Nat) := by
  rw [u32_and_nat _ _ ha hb, u32_and_nat _ _ ha hc, u32_and_nat _ _ hb hc, u32_xor_nat _ _ (and_lt ha) (and_lt ha), u32_xor_nat _ _ (xor_lt (and_lt ha) (and_lt ha)) (and_lt hb), u32_xor_nat _ _ (rr_lt ha _) (rr_lt ha _), u32_xor_nat _ _ (xor_lt (rr_lt ha _) (rr_lt ha _)) (rr_lt ha _)]
  unfold rU
  rw [trn3]
  omega
theorem OQ.newRow {w : World} {base : Nat} {t : TypeId} {xs : List Value} {n : Nat} (hb : base ≤ w.heap.size) (hn : xs.length = n := by rfl) (hm : n ≤ maxLen := by decide) : OQ (w.alloc (.cells xs.toArray t)) base 1 (.slice (some ⟨w.heap.size, 0, none⟩) n n) n xs := by
  refine ⟨by omega, .inr ⟨_, _, _, rfl, hb, by simp, Nat.le_refl _, hm, fun j hj => ?_, fun j u hu => ?_⟩⟩
  · rw [Nat.zero_add, World.cell?_alloc_new, World.frozen?_alloc_new]
    exact ⟨by rw [List.getElem?_toArray, List.getElem?_eq_getElem (by omega)]; rfl, rfl⟩
  · rw [Nat.zero_add, World.cell?_alloc_new, List.getElem?_toArray]; exact hu
theorem Own1.below {w wr w' : World} {N : Nat} {t : TypeId} {cs : List Value} (h : Own1 w N t cs wr) (hq : Qt wr w') : Own1 w N t cs w' :=
  ⟨(hq.block N (heap_lt h.blk)).trans h.blk, h.bel.trans (hq.mono (Nat.le_of_lt (heap_lt h.blk)))⟩
theorem OQ.frozen {w : World} {base n c g off j : Nat} {xs : List Value} (h : OQ w base 1 (.slice (some ⟨g, off, none⟩) n c) n xs) (hj : j < n) : w.frozen? ⟨g, off + j, none⟩ = false := by
  obtain ⟨_, ⟨h2, _⟩ | ⟨g', off', cap, h2, _, _, h3, _, h4, _⟩⟩ := h
  · cases h2
  · cases h2; exact (h4 j (by omega)).2
theorem addH_comm (H V : List Nat) : addH H V 8 = addH V H 8 := by
  unfold addH
  apply List.map_congr_left
  intro j hj
  rw [if_pos (by simpa using hj), if_pos (by simpa using hj), Nat.add_comm]
theorem made64 : (madeCells (Value.int .u32 0).cells (64 * 1)).toList = arr [] := by kernel_rfl
theorem Own1.ofOwns {w w' : World} {e : TypeId} {xs : List Value} (h : w'.ownsRow w.heap.size e 1 (.slice (some ⟨w.heap.size, 0, none⟩) 64 64) 64 xs) (hg : w.grownBy w' none) : Own1 w w.heap.size e xs w' := by
  obtain ⟨h1, ⟨h2, _⟩ | ⟨g, cap, cur, h2, hb, hgc, hn, hm, hc, hx⟩⟩ := h
  · cases h2
  · cases h2
    rw [List.take_of_length_le (by rw [Array.length_toList, hc]; exact Nat.le_refl _)] at hx
    exact ⟨by rw [hgc, ← hx], below_none hg⟩

set_option maxRecDepth 100000 in
set_option maxHeartbeats 4000000 in
theorem rowR_any (H K b : List Nat) (hH : H.length = 8) (hHb : ∀ x ∈ H, x < 4294967296) (hK : K.length = 64) (hKb : ∀ x ∈ K, x < 4294967296)
    (hb : ∀ x ∈ b, x < 256) (hl : b.length = 64) (hv kv bv : Value) (w : World) (h1 : Rd w hv 8 (H.map u32v)) (h2 : Rd w kv 64 (K.map u32v)) (h3 : Rd w bv 64 (u8s b)) :
    Calls Try.prog 27 #[hv, kv, bv] w fun e w' => ∃ r, e = .returned r ∧ OQ w' w.heap.size 1 r 8 ((rowH K H b).map u32v) ∧ Qt w w' := by
  obtain ⟨R, hR⟩ : ∃ R, R = rowH K H b := ⟨_, rfl⟩
  rw [← hR]
  have HRR := Lib.hid hR; clear hR
  obtain ⟨B, off, bc, rfl, hbc, hbcell⟩ : ∃ B off c, bv = .slice (some ⟨B, off, none⟩) 64 c ∧ 64 ≤ c ∧ ∀ j, j < 64 → w.cell? ⟨B, off + j, none⟩ = some (.int .u8 (b.getD j 0 : Nat)) := by
    obtain ⟨a, c, rfl, hc, h0⟩ := h3
    rcases h0 with g | ⟨B, off, rfl, g⟩
    · exact absurd (show b.length = 0 from by have e := congrArg List.length g; rwa [u8s, List.length_map] at e) (by omega)
    · exact ⟨B, off, c, rfl, hc, fun j hj => g j _ (by simp [u8s, hl, hj])⟩
  obtain ⟨KB, ko, kc, rfl, hkc, hkcell⟩ : ∃ B off c, kv = .slice (some ⟨B, off, none⟩) 64 c ∧ 64 ≤ c ∧ ∀ j, j < 64 → w.cell? ⟨B, off + j, none⟩ = some (.int .u32 (K.getD j 0 : Nat)) := by
    obtain ⟨a, c, rfl, hc, h0⟩ := h2
    rcases h0 with g | ⟨B, off, rfl, g⟩
    · exact absurd (show K.length = 0 from by have e := congrArg List.length g; rwa [List.length_map] at e) (by omega)
    · exact ⟨B, off, c, rfl, hc, fun j hj => g j _ (by rw [List.getElem?_map, List.getD_eq_getElem?_getD, List.getElem?_eq_getElem (by omega)]; rfl)⟩
  obtain ⟨HB0, ho, hc, rfl, hhc, hhcell⟩ : ∃ B off c, hv = .slice (some ⟨B, off, none⟩) 8 c ∧ 8 ≤ c ∧ ∀ j, j < 8 → w.cell? ⟨B, off + j, none⟩ = some (.int .u32 (H.getD j 0 : Nat)) := by
    obtain ⟨a, c, rfl, hc, h0⟩ := h1
    rcases h0 with g | ⟨B, off, rfl, g⟩
    · exact absurd (show H.length = 0 from by have e := congrArg List.length g; rwa [List.length_map] at e) (by omega)
    · exact ⟨B, off, c, rfl, hc, fun j hj => g j _ (by rw [List.getElem?_map, List.getD_eq_getElem?_getD, List.getElem?_eq_getElem (by omega)]; rfl)⟩
  have HBC := Lib.hid hbcell; clear hbcell
  have HKC := Lib.hid hkcell; clear hkcell
  have HHC := Lib.hid hhcell; clear hhcell
  have HH := Lib.hid hH; clear hH
  have HHB := Lib.hid hHb; clear hHb
  have HKL := Lib.hid hK; clear hK
  have HKB := Lib.hid hKb; clear hKb
  have HU := Lib.hid hb; clear hb
  have HL := Lib.hid hl; clear hl
  have H1 := Lib.hid h1; clear h1
  clear h2 h3
  obtain ⟨i0, hi0, hz0, hz1, hz2⟩ := info_parts (P := Try.prog) (e := 46) (z := .int .u32 0) (size := 1) (bytes := 4) (by kernel_rfl)
  have HI0 := Lib.hid hi0
  have HZ0 := Lib.hid hz0
  have HZ1 := Lib.hid hz1
  have HZ2 := Lib.hid hz2
  clear hi0 hz0 hz1 hz2
  go_enter Try.func27, Try.ntmps27
  go_wp2_with (at_make; go_must (refine wpList_make_full w rfl (.const (.int .i64 64)) (.const (.int .i64 64)) 57 rfl w.heap.size 46 i0 (.int .u32 0) 1 (by kernel_rfl) HI0.out HZ0.out HZ1.out .i64 .i64 64 64 64 rfl rfl rfl rfl (by rw [HZ2.out]; omega) (by decide) (Nat.le_refl _) ?_); intro w1 h1 h2; (have ho := Own1.ofOwns h1 h2); rw [made64] at ho; (have HO := Lib.hid ho); clear h1 h2 ho)
  go_loopw [8] (fun i wr => ∃ k : Nat, k ≤ 16 ∧ i = .int .i64 k ∧ Own1 w w.heap.size 46 (arr (wsTo b k)) wr) (fun i _ => 16 - (intOf i).toNat)
  case atStart => exact ⟨0, by omega, rfl, HO.out⟩
  case round =>
    obtain ⟨k, hk, rfl, hO⟩ := hrel
    have HO2 := Lib.hid hO; clear hO
    by_cases h16 : k < 16
    · have hBs : B < w.heap.size := blk_of_cell (HBC.out 0 (by omega))
      have c0 : wr.cell? ⟨B, off + 4 * k, none⟩ = some (.int .u8 (b.getD (4 * k) 0 : Nat)) := (HO2.out.bel.cell (p := ⟨B, off + 4 * k, none⟩) hBs).trans (HBC.out _ (by omega))
      have c1 : wr.cell? ⟨B, off + (4 * k + 1), none⟩ = some (.int .u8 (b.getD (4 * k + 1) 0 : Nat)) := (HO2.out.bel.cell (p := ⟨B, off + (4 * k + 1), none⟩) hBs).trans (HBC.out _ (by omega))
      have c2 : wr.cell? ⟨B, off + (4 * k + 2), none⟩ = some (.int .u8 (b.getD (4 * k + 2) 0 : Nat)) := (HO2.out.bel.cell (p := ⟨B, off + (4 * k + 2), none⟩) hBs).trans (HBC.out _ (by omega))
      have c3 : wr.cell? ⟨B, off + (4 * k + 3), none⟩ = some (.int .u8 (b.getD (4 * k + 3) 0 : Nat)) := (HO2.out.bel.cell (p := ⟨B, off + (4 * k + 3), none⟩) hBs).trans (HBC.out _ (by omega))
      have hX := arr_step (b := b) (show k < 64 by omega) (x := wfirst b k) (by rw [if_pos h16])
      have hg : ∀ j, b.getD j 0 < 256 := by
        intro j
        rw [List.getD_eq_getElem?_getD]
        by_cases h : j < b.length
        · rw [List.getElem?_eq_getElem h]; exact HU.out _ (List.getElem_mem h)
        · rw [List.getElem?_eq_none (by omega)]; decide
      have hS := w4_sum (hg (4 * k)) (hg (4 * k + 1)) (hg (4 * k + 2)) (hg (4 * k + 3))
      unfold wfirst at hX
      rw [hS] at hX
      have g0 := hg (4 * k)
      have g1 := hg (4 * k + 1)
      have g2 := hg (4 * k + 2)
      have g3 := hg (4 * k + 3)
      have HX := Lib.hid hX
      clear hX hS hg
      generalize b.getD (4 * k) 0 = x0 at *
      generalize b.getD (4 * k + 1) 0 = x1 at *
      generalize b.getD (4 * k + 2) 0 = x2 at *
      generalize b.getD (4 * k + 3) 0 = x3 at *
      have s0 : wr.cell? ⟨w.heap.size, k, none⟩ = some (u32v ((wsTo b k).getD k 0)) := by rw [cell_blk HO2.out.blk, arr_get _ (by omega)]
      have s1 : wr.frozen? ⟨w.heap.size, k, none⟩ = false := frozen_blk HO2.out.blk _
      have hne : ¬ B = w.heap.size := by omega
      have hG := Lib.hid (And.intro g0 (And.intro g1 (And.intro g2 g3)))
      clear g0 g1 g2 g3
      go_wp2_with fail
      go_region
      go_wp2_with fail
      have hO3 := (HO2.out.set k (u32v (x0 * 16777216 + x1 * 65536 + x2 * 256 + x3))).drew
      rw [HX.out] at hO3
      have e : u32v (x0 * 16777216 + x1 * 65536 + x2 * 256 + x3) = Value.int .u32 (((x0 : Int) % 4294967296 * 16777216 + (x1 : Int) % 4294967296 * 65536 + (x2 : Int) % 4294967296 * 256 + (x3 : Int)) % 4294967296) := by
        unfold u32v
        congr 1
        have := hG.out
        omega
      rw [e] at hO3
      refine ⟨⟨k + 1, by omega, by go_num, hO3⟩, ?_⟩
      simp [intOf]; omega
    · obtain rfl : k = 16 := by omega
      rw [show ((16 : Nat) : Int) = 16 from rfl]
      go_wp2_with fail
      go_loopw [9] (fun i wr => ∃ k : Nat, 16 ≤ k ∧ k ≤ 64 ∧ i = .int .i64 k ∧ Own1 w w.heap.size 46 (arr (wsTo b k)) wr) (fun i _ => 64 - (intOf i).toNat)
      case atStart => exact ⟨16, by omega, by omega, rfl, HO2.out⟩
      case round =>
        obtain ⟨k, hk16, hk, rfl, hO⟩ := hrel
        have HO3 := Lib.hid hO; clear hO
        by_cases h64 : k < 64
        · obtain ⟨p, hp⟩ : ∃ p, p = (wsTo b k).getD (k - 16) 0 := ⟨_, rfl⟩
          obtain ⟨q, hq⟩ : ∃ q, q = (wsTo b k).getD (k - 7) 0 := ⟨_, rfl⟩
          obtain ⟨x, hx⟩ : ∃ x, x = (wsTo b k).getD (k - 15) 0 := ⟨_, rfl⟩
          obtain ⟨y, hy⟩ : ∃ y, y = (wsTo b k).getD (k - 2) 0 := ⟨_, rfl⟩
          have cc : ∀ j, j < 64 → wr.cell? ⟨w.heap.size, j, none⟩ = some (.int .u32 ((wsTo b k).getD j 0 : Nat)) := fun j hj => by rw [cell_blk HO3.out.blk, arr_get _ hj]; rfl
          have c0 := cc (k - 16) (by omega)
          have c1 := cc (k - 7) (by omega)
          have c2 := cc (k - 15) (by omega)
          have c3 := cc (k - 2) (by omega)
          have s0 := cc k h64
          rw [← hp] at c0
          rw [← hq] at c1
          rw [← hx] at c2
          rw [← hy] at c3
          clear cc
          have s1 : wr.frozen? ⟨w.heap.size, k, none⟩ = false := frozen_blk HO3.out.blk _
          have lp : p < 4294967296 := by rw [hp]; exact wsTo_getD_lt b HU.out _ _
          have lq : q < 4294967296 := by rw [hq]; exact wsTo_getD_lt b HU.out _ _
          have lx : x < 4294967296 := by rw [hx]; exact wsTo_getD_lt b HU.out _ _
          have ly : y < 4294967296 := by rw [hy]; exact wsTo_getD_lt b HU.out _ _
          have hX := arr_step (b := b) h64 (x := wmix p q x y) (by rw [if_neg (by omega), hp, hq, hx, hy])
          have hI := wmixR_int (p := p) (q := q) lx ly
          have HX := Lib.hid hX
          have HI := Lib.hid hI
          clear hX hI hp hq hx hy
          generalize (wsTo b k).getD k 0 = z at *
          have k1 : (16 : Int) ≤ (k : Int) := by omega
          have z1 : IntKind.i64.wrap ((k : Int) - 15) = (k : Int) - 15 := IntWalk.i64_in _ (by omega)
          have z2 : IntKind.i64.wrap ((k : Int) - 2) = (k : Int) - 2 := IntWalk.i64_in _ (by omega)
          have z3 : ((k : Int) - 15).toNat = k - 15 := by omega
          have z4 : ((k : Int) - 2).toNat = k - 2 := by omega
          have z5 : (0 : Int) ≤ (k : Int) - 15 := by omega
          have z6 : (0 : Int) ≤ (k : Int) - 2 := by omega
          have z7 : (k : Int) - 15 < 64 := by omega
          have z8 : (k : Int) - 2 < 64 := by omega
          go_wp2_with fail
          go_quiet (fail)
          clear z1 z2 z3 z4 z5 z6 z7 z8
          go_wp2_with (go_at_call 34; refine (turnedR_any _ _ (by assumption) (by decide) (by decide) _).mono ?_; rintro e w' ⟨rfl, rfl⟩)
          go_region
          go_wp2_with fail
          have hO5 : ∀ m, Own1 w w.heap.size 46 (arr (wsTo b (k + 1))) ((wr.drewN m).setCell ⟨w.heap.size, k, none⟩ (u32v (wmix p q x y))) := fun m => by
            have := (HO3.out.drewN m).set k (u32v (wmix p q x y))
            rwa [HX.out] at this
          go_roundw
          case rel => exact ⟨k + 1, by omega, by omega, by go_num, by rw [HI.out]; exact hO5 _⟩
          case measure => simp [intOf]; omega
        · obtain rfl : k = 64 := by omega
          have hWl := wsTo_len b 64
          have hWb := wsTo_getD_lt b HU.out 64
          have hRR := HRR.out
          unfold rowH at hRR
          have hO4 := HO3.out
          rw [arr_full] at hO4
          clear HO HO2 HO3 HRR HBC HU HL
          generalize wsTo b 64 = W at *
          have HWL := Lib.hid hWl
          have HWB := Lib.hid hWb
          have HRR := Lib.hid hRR
          have HO4 := Lib.hid hO4
          clear hWl hWb hRR hO4
          go_wp2_with (at_builtin; go_must (refine wp_appQ rfl (.tmp 112) (.tmp 113) 57 57 rfl w.heap.size 46 i0 (.int .u32 0) 1 4 (by kernel_rfl) HI0.out HZ0.out HZ1.out HZ2.out rfl _ 0 [] rfl (OQ.emptyNew HO4.out.bel.size) _ 8 (H.map u32v) rfl (Src.ofRd (e' := 46) (by kernel_rfl) (H1.out.below (Qt.alloc HO4.out.bel _)) (by rw [List.length_map, HH.out]) (by decide) (fun y hy => by obtain ⟨_, _, rfl⟩ := List.mem_map.1 hy; rfl)) (by unfold maxLen; omega) (by omega) (Nat.le_trans HO4.out.bel.size (by simp)) ?_); intro v2 w3 h1 h2 h3; (have h5 := Own1.app HO4.out h2); obtain ⟨a2, c2, rfl⟩ := h1.slice; (have H5 := Lib.hid h1); (have H6 := Lib.hid h5); clear h1 h2 h3 h5)
          go_loopw [14, 15] (fun o i wr => ∃ k : Nat, k ≤ 64 ∧ i = .int .i64 k ∧ OQ wr w.heap.size 1 o 8 ((rounds W K H k).map u32v) ∧ Own1 w w.heap.size 46 (W.map u32v) wr) (fun _ i _ => 64 - (intOf i).toNat)
          case atStart => exact ⟨0, by omega, rfl, H5.out, H6.out⟩
          case round =>
            obtain ⟨k, hk, rfl, hv, hO⟩ := hrel
            obtain ⟨a3, c3, rfl⟩ := hv.slice
            have HV := Lib.hid hv
            have HO := Lib.hid hO
            clear hv hO
            by_cases h64 : k < 64
            · obtain ⟨h8, hB⟩ := rounds_ok W K H HH.out HHB.out k
              obtain ⟨a, bb, c, d, e, f, g, hh, hl8⟩ := len8 h8
              have hstep : rounds W K H (k + 1) = rnd (K.getD k 0) (W.getD k 0) [a, bb, c, d, e, f, g, hh] := by rw [rounds, hl8]
              have hwl := HWB.out k
              have hkl : K.getD k 0 < 4294967296 := by
                rw [List.getD_eq_getElem?_getD, List.getElem?_eq_getElem (by rw [HKL.out]; exact h64)]; exact HKB.out _ (List.getElem_mem _)
              have hV := HV.out
              rw [hl8] at hV
              rw [hl8] at hB
              obtain ⟨l0, l1, l2, l3, l4, l5, l6, l7, -⟩ : a < 4294967296 ∧ bb < 4294967296 ∧ c < 4294967296 ∧ d < 4294967296 ∧ e < 4294967296 ∧ f < 4294967296 ∧ g < 4294967296 ∧ hh < 4294967296 ∧ True := by simpa using hB
              clear hB h8 HV hl8
              obtain ⟨vg, vo, rfl, cs⟩ := hV.cells (by omega)
              have hc3 := hV.lenCap
              have s0 := cs 0 (.int .u32 (a : Nat)) rfl
              have s1 := cs 1 (.int .u32 (bb : Nat)) rfl
              have s2 := cs 2 (.int .u32 (c : Nat)) rfl
              have s3 := cs 3 (.int .u32 (d : Nat)) rfl
              have s4 := cs 4 (.int .u32 (e : Nat)) rfl
              have s5 := cs 5 (.int .u32 (f : Nat)) rfl
              have s6 := cs 6 (.int .u32 (g : Nat)) rfl
              have s7 := cs 7 (.int .u32 (hh : Nat)) rfl
              rw [Nat.add_zero] at s0
              have sk : wr.cell? ⟨KB, ko + k, none⟩ = some (.int .u32 (K.getD k 0 : Nat)) :=
                (HO.out.bel.cell (p := ⟨KB, ko + k, none⟩) (blk_of_cell (HKC.out k h64))).trans (HKC.out k h64)
              have sw : wr.cell? ⟨w.heap.size, k, none⟩ = some (.int .u32 (W.getD k 0 : Nat)) := by
                have e1 := HWL.out
                rw [cell_blk HO.out.blk, List.getElem?_map, List.getD_eq_getElem?_getD, List.getElem?_eq_getElem (by omega)]; rfl
              have HV := Lib.hid hV
              have HSTEP := Lib.hid hstep
              clear cs hV hstep
              generalize W.getD k 0 = ww at *
              generalize K.getD k 0 = kk at *
              have i1 : (0 : Int) ≤ (k : Int) := by omega
              have i2 : (k : Int) < 64 := by omega
              go_wp2_with fail
              go_quiet (fail)
              go_wp2_with fail
              have hqz : Qt wr (wr.drewN nq) := (Qt.refl wr).drewN nq
              have hcz : ∀ a, (wr.drewN nq).cell? a = wr.cell? a := fun _ => rfl
              generalize wr.drewN nq = wz at *
              rw [← hcz] at s0 s1 s2 s3 s4 s5 s6 s7 sk sw
              have HQZ := Lib.hid hqz
              clear hcz hqz
              go_quiet ((go_at_call 34; exact quiet_same (turnedR_any _ _ (by assumption) (by decide) (by decide) _)))
              go_wp2_with (go_at_call 34; refine (turnedR_any _ _ (by assumption) (by decide) (by decide) _).mono ?_; rintro e w' ⟨rfl, rfl⟩)
              have ET := rTR_int (kk := kk) (ww := ww) (h := hh) l4 l5 l6
              have EU := rUR_int l0 l1 l2
              have LT : rT kk ww e f g hh < 4294967296 := Nat.mod_lt _ (by decide)
              have LU : rU a bb c < 4294967296 := Nat.mod_lt _ (by decide)
              rw [ET, EU]
              clear ET EU
              have hR2 : rounds W K H (k + 1) = [(rT kk ww e f g hh + rU a bb c) % 4294967296, a, bb, c, (d + rT kk ww e f g hh) % 4294967296, e, f, g] := HSTEP.out
              generalize rT kk ww e f g hh = T at *
              generalize rU a bb c = U at *
              have HR2 := Lib.hid hR2; clear hR2
              have hvz : vg < wz.heap.size := blk_of_cell s3
              go_region_held3 (fun w' => w'.cell? ⟨vg, vo + 3, none⟩ = some (.int .u32 (d : Nat)) ∧ w'.cell? ⟨vg, vo + 5, none⟩ = some (.int .u32 (f : Nat)) ∧ w'.cell? ⟨vg, vo + 6, none⟩ = some (.int .u32 (g : Nat)))
                (first | exact ⟨s3, s5, s6⟩ | exact ⟨(cell_alE (by simp; omega) _).trans s3, (cell_alE (by simp; omega) _).trans s5, (cell_alE (by simp; omega) _).trans s6⟩)
                (fail)
              go_wp2_with fail
              have hOz := HO.out.below HQZ.out
              have hbz := hOz.bel.size
              have e1 : Value.int .u32 (((T : Int) + (U : Int)) % 4294967296) = u32v ((T + U) % 4294967296) := by simp [u32v]
              have e2 : Value.int .u32 (((d : Int) + (T : Int)) % 4294967296) = u32v ((d + T) % 4294967296) := by simp [u32v]
              have hOq : ∀ n, OQ ((wz.drewN n).alloc (.cells ([(T + U) % 4294967296, a, bb, c, (d + T) % 4294967296, e, f, g].map u32v).toArray 46)) w.heap.size 1 (.slice (some ⟨wz.heap.size, 0, none⟩) 8 8) 8 ([(T + U) % 4294967296, a, bb, c, (d + T) % 4294967296, e, f, g].map u32v) := fun n => OQ.newRow (w := wz.drewN n) hbz
              refine ⟨⟨k + 1, by omega, by go_num, by rw [HR2.out, e1, e2]; exact hOq _, (hOz.drewN _).al _⟩, ?_⟩
              simp [intOf]; omega
            · obtain rfl : k = 64 := by omega
              obtain ⟨h8, hB⟩ := rounds_ok W K H HH.out HHB.out 64
              obtain ⟨V, hV⟩ : ∃ V, V = rounds W K H 64 := ⟨_, rfl⟩
              have hv0 := HV.out
              have hr0 := HRR.out
              rw [← hV] at h8 hv0 hr0
              have hv1 : OQ wr w.heap.size 1 (.slice a3 8 c3) 8 ((addH V H 0).map u32v) := by rw [addH_zero h8]; exact hv0
              have HV0 := Lib.hid hv1
              have HR0 := Lib.hid hr0
              have H8 := Lib.hid h8
              have HBE := Lib.hid HO.out.bel
              clear hB hV hv0 hr0 hv1 h8 HV HRR
              rw [show ((64 : Nat) : Int) = 64 from rfl]
              go_wp2_with fail
              go_loopw [22] (fun i wr => ∃ k : Nat, k ≤ 8 ∧ i = .int .i64 k ∧ OQ wr w.heap.size 1 (.slice a3 8 c3) 8 ((addH V H k).map u32v) ∧ Below w.heap.size w wr) (fun i _ => 8 - (intOf i).toNat)
              case atStart => exact ⟨0, by omega, rfl, HV0.out, HBE.out⟩
              case round =>
                obtain ⟨k, hk, rfl, hv, hb⟩ := hrel
                have HV := Lib.hid hv
                have HB := Lib.hid hb
                clear hv hb
                by_cases h8 : k < 8
                · have hs := addH_step V H h8
                  have HSt := Lib.hid hs; clear hs
                  have hvv := HV.out
                  obtain ⟨vg, vo, rfl, cs⟩ := hvv.cells (by omega)
                  have hbg : w.heap.size ≤ vg := (hvv.lt vg rfl).1
                  have s0 : wr.cell? ⟨vg, vo + k, none⟩ = some (.int .u32 (V.getD k 0 : Nat)) := cs k _ (by
                    rw [List.getElem?_map, addH_get _ _ _ h8, if_neg (by omega)]; rfl)
                  have s1 : wr.cell? ⟨HB0, ho + k, none⟩ = some (.int .u32 (H.getD k 0 : Nat)) :=
                    (HB.out.cell (p := ⟨HB0, ho + k, none⟩) (blk_of_cell (HHC.out k h8))).trans (HHC.out k h8)
                  have f0 : wr.frozen? ⟨vg, vo + k, none⟩ = false := hvv.frozen h8
                  have hne : ¬ vg = HB0 := by have := blk_of_cell (HHC.out k h8); simp at this; omega
                  have i1 : (0 : Int) ≤ (k : Int) := by omega
                  have i2 : (k : Int) < 8 := by omega
                  clear cs hvv
                  generalize V.getD k 0 = x at *
                  generalize H.getD k 0 = y at *
                  go_wp2_with fail
                  go_region
                  go_wp2_with fail
                  have e : Value.int .u32 (((x : Int) + (y : Int)) % 4294967296) = u32v ((x + y) % 4294967296) := by simp [u32v]
                  have hv2 := (HV.out.set h8 (u32v ((x + y) % 4294967296))).drew
                  rw [← List.map_set, HSt.out] at hv2
                  refine ⟨⟨k + 1, by omega, by go_num, by rw [e]; exact hv2, by rw [e]; exact (HB.out.setCell hbg _).drew⟩, ?_⟩
                  simp [intOf]; omega
                · obtain rfl : k = 8 := by omega
                  go_wp2
                  go_ret
                  exact ⟨_, rfl, by rw [HR0.out, addH_comm]; exact HV.out, HB.out⟩
end Go.Proofs.Ytjpimfbkdighfaa
