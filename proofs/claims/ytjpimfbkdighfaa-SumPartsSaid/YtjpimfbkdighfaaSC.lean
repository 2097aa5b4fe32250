import Derived.Test.YtjpimfbkdighfaaSB
namespace Go.Proofs.Ytjpimfbkdighfaa
open Go.RowKit

/-- The numbers behind n rows of these bytes. -/
def hsN (K H buf : List Nat) : Nat → List Nat
  | 0 => H
  | n + 1 => rowH K (hsN K H buf n) ((buf.drop (64 * n)).take 64)
theorem rowH_ok {K H b : List Nat} (_hH : H.length = 8) : (rowH K H b).length = 8 ∧ ∀ x ∈ rowH K H b, x < 4294967296 := by
  refine ⟨addH_len _ _ _, fun x hx => ?_⟩
  obtain ⟨j, hj, rfl⟩ := List.mem_map.1 hx
  rw [if_pos (by simpa using hj)]
  exact Nat.mod_lt _ (by decide)
theorem hsN_ok {K H buf : List Nat} (hH : H.length = 8) (hb : ∀ x ∈ H, x < 4294967296) (n : Nat) : (hsN K H buf n).length = 8 ∧ ∀ x ∈ hsN K H buf n, x < 4294967296 := by
  cases n with
  | zero => exact ⟨hH, hb⟩
  | succ n =>
    have : (hsN K H buf n).length = 8 := by
      cases n with
      | zero => exact hH
      | succ n => exact addH_len _ _ _
    exact rowH_ok this

def wk (H K : List Nat) (lv : Value) (m : Nat) : List Value := H.map u32v ++ (K.map u32v ++ [lv, .int .u64 (m : Int)])
theorem wk_72 {H K : List Nat} {lv : Value} {m : Nat} (h8 : H.length = 8) (hK : K.length = 64) : (wk H K lv m)[72]? = some lv := by
  unfold wk
  rw [List.getElem?_append_right (by simp; omega), List.getElem?_append_right (by simp; omega)]
  simp [h8, hK]
theorem wk_73 {H K : List Nat} {lv : Value} {m : Nat} (h8 : H.length = 8) (hK : K.length = 64) : (wk H K lv m)[73]? = some (.int .u64 (m : Int)) := by
  unfold wk
  rw [List.getElem?_append_right (by simp; omega), List.getElem?_append_right (by simp; omega)]
  simp [h8, hK]
theorem wk_set72 {H K : List Nat} {lv : Value} {m : Nat} (h8 : H.length = 8) (hK : K.length = 64) (u : Value) : (wk H K lv m).set 72 u = wk H K u m := by
  unfold wk
  rw [List.set_append_right _ _ (by simp; omega), List.set_append_right _ _ (by simp; omega)]
  simp [h8, hK]
theorem wk_set73 {H K : List Nat} {lv : Value} {m : Nat} (h8 : H.length = 8) (hK : K.length = 64) (n : Nat) : (wk H K lv m).set 73 (.int .u64 (n : Int)) = wk H K lv n := by
  unfold wk
  rw [List.set_append_right _ _ (by simp; omega), List.set_append_right _ _ (by simp; omega)]
  simp [h8, hK]

/-- A hash at work in block G. -/
structure Wk (G : Nat) (H K buf : List Nat) (m : Nat) (lv : Value) (w : World) : Prop where
  h8 : H.length = 8
  hb : ∀ x ∈ H, x < 4294967296
  k64 : K.length = 64
  kb : ∀ x ∈ K, x < 4294967296
  bb : ∀ x ∈ buf, x < 256
  blk : w.heap[G]? = some (.cells (wk H K lv m).toArray 54 (0, 0))
  left : OQ w (G + 1) 1 lv buf.length (u8s buf)

theorem OQ.tail {w : World} {base : Nat} {g off n cap : Nat} {xs : List Value} (h : OQ w base 1 (.slice (some ⟨g, off, none⟩) n cap) n xs) {k : Nat} (hk : k ≤ n) : OQ w base 1 (.slice (some ⟨g, off + k, none⟩) (n - k) (cap - k)) (n - k) (xs.drop k) := by
  obtain ⟨h1, ⟨h2, _⟩ | ⟨g', off', cap', h2, r1, r2, r3, r4, r5, r6⟩⟩ := h
  · cases h2
  · cases h2
    refine ⟨by simp at h1 ⊢; omega, .inr ⟨_, _, _, rfl, r1, r2, by omega, by omega, fun j hj => ?_, fun j u hu => ?_⟩⟩
    · have := r5 (k + j) (by omega)
      rwa [← Nat.add_assoc] at this
    · rw [List.getElem?_drop] at hu
      have := r6 (k + j) u hu
      rwa [← Nat.add_assoc] at this
theorem OQ.none_left {w : World} {base : Nat} {g off n cap : Nat} {xs : List Value} (h : OQ w base 1 (.slice (some ⟨g, off, none⟩) n cap) n xs) : OQ w base 1 (.slice (some ⟨g, off, none⟩) 0 0) 0 [] := by
  obtain ⟨h1, ⟨h2, _⟩ | ⟨g', off', cap', h2, r1, r2, r3, r4, r5, r6⟩⟩ := h
  · cases h2
  · cases h2
    exact ⟨rfl, .inr ⟨_, _, _, rfl, r1, r2, Nat.le_refl _, Nat.zero_le _, fun j hj => absurd hj (by omega), fun j u hu => by simp at hu⟩⟩

theorem Rd.far {w : World} {v : Value} {n : Nat} {xs : List Value} (h : Rd w v n xs) {p : Addr} (hp : xs = [] ∨ v.ownBlock ≠ some p.block) (u : Value) : Rd (w.setCell p u) v n xs := by
  obtain ⟨a, c, rfl, hc, rfl | ⟨b, off, rfl, hx⟩⟩ := h
  · exact ⟨a, c, rfl, hc, .inl rfl⟩
  · rcases hp with rfl | hp
    · exact ⟨_, c, rfl, hc, .inl rfl⟩
    · exact ⟨_, c, rfl, hc, .inr ⟨b, off, rfl, fun j u hu => (World.cell?_setCell_far w p _ _ (fun e => hp (by simp [Value.ownBlock, e]))).trans (hx j u hu)⟩⟩
theorem Rd.lies {w : World} {v : Value} {n : Nat} {xs : List Value} (h : Rd w v n xs) : xs = [] ∨ ∀ g, w.heap.size ≤ g → v.ownBlock ≠ some g := by
  obtain ⟨a, c, rfl, hc, rfl | ⟨b, off, rfl, hx⟩⟩ := h
  · exact .inl rfl
  · by_cases h0 : xs = []
    · exact .inl h0
    · refine .inr fun g hg e => ?_
      have : 0 < xs.length := List.length_pos_iff.2 h0
      have := blk_of_cell (hx 0 _ (List.getElem?_eq_getElem this))
      simp [Value.ownBlock] at e
      simp at this
      omega

/-- Behind an append to the left bytes: the block as it was; the new bytes lie in v2. -/
structure Wk0 (G : Nat) (H K buf : List Nat) (m : Nat) (lv : Value) (w : World) : Prop where
  h8 : H.length = 8
  hb : ∀ x ∈ H, x < 4294967296
  k64 : K.length = 64
  kb : ∀ x ∈ K, x < 4294967296
  bb : ∀ x ∈ buf, x < 256
  blk : w.heap[G]? = some (.cells (wk H K lv m).toArray 54 (0, 0))
theorem Wk0.cell72 {G : Nat} {H K buf : List Nat} {m : Nat} {lv : Value} {w : World} (h : Wk0 G H K buf m lv w) : w.cell? ⟨G, 72, none⟩ = some lv := by rw [cell_blk h.blk]; exact wk_72 h.h8 h.k64
theorem Wk0.frozen72 {G : Nat} {H K buf : List Nat} {m : Nat} {lv : Value} {w : World} (h : Wk0 G H K buf m lv w) : w.frozen? ⟨G, 72, none⟩ = false := frozen_blk h.blk _
theorem Wk.appended {G : Nat} {H K buf xs : List Nat} {m : Nat} {lv v2 : Value} {w w2 : World} (h : Wk G H K buf m lv w) (hx : ∀ x ∈ xs, x < 256) (_h1 : OQ w2 (G + 1) 1 v2 (buf.length + xs.length) (u8s buf ++ u8s xs)) (h2 : w.grownBy w2 lv.ownBlock) : Wk0 G H K (buf ++ xs) m lv w2 :=
  ⟨h.h8, h.hb, h.k64, h.kb, fun x hx' => (List.mem_append.1 hx').elim (h.bb x) (hx x), (h2.block G (heap_lt h.blk) (fun e => by have := (h.left.lt G e.symm).1; omega)).trans h.blk⟩
theorem Wk0.stored {G : Nat} {H K buf : List Nat} {m : Nat} {lv lv' : Value} {w : World} (h : Wk0 G H K buf m lv w) (hl : OQ w (G + 1) 1 lv' buf.length (u8s buf)) : Wk G H K buf m lv' (w.setCell ⟨G, 72, none⟩ lv') := by
  have := set_blk h.blk 72 lv'
  rw [wk_set72 h.h8 h.k64] at this
  exact ⟨h.h8, h.hb, h.k64, h.kb, h.bb, this, hl.far (fun e => by have := (hl.lt G (by simpa using e)).1; omega) _⟩
theorem Wk.belowOf {w w2 : World} {B base size n : Nat} {lv : Value} {xs : List Value} (h : w.grownBy w2 lv.ownBlock) (hl : OQ w base size lv n xs) (hB : B ≤ base) (hBs : B ≤ w.heap.size) : Below B w w2 :=
  ⟨h.os, h.tape, h.output, h.size, fun k hk => h.block k (by omega) (fun e => by have := (hl.lt k e.symm).1; omega)⟩

theorem OQ.cut {w : World} {base : Nat} {a : Option Addr} {c : Nat} {D : List Nat} (h : OQ w base 1 (.slice a D.length c) D.length (u8s D)) (h64 : 64 ≤ D.length) :
    ∃ g off, a = some ⟨g, off, none⟩ ∧ D.length ≤ c ∧ c ≤ maxLen ∧ Rd w (.slice (some ⟨g, off, none⟩) 64 c) 64 (u8s (D.take 64)) := by
  obtain ⟨h1, ⟨h2, _⟩ | ⟨g', off', cap', h2, r1, r2, r3, r4, r5, r6⟩⟩ := h
  · injection h2 with e1 e2 e3; omega
  · cases h2
    refine ⟨_, _, rfl, r3, r4, _, _, rfl, by omega, .inr ⟨_, _, rfl, fun j u hu => r6 j u ?_⟩⟩
    have : j < (u8s (D.take 64)).length := (List.getElem?_eq_some_iff.1 hu).1
    rw [← hu]
    simp only [u8s, List.map_take, List.length_take, List.length_map] at this ⊢
    rw [List.getElem?_take, if_pos (by omega)]

theorem u8s_drop (l : List Nat) (k : Nat) : u8s (l.drop k) = (u8s l).drop k := by simp [u8s]
theorem Wk.belowG {w w2 : World} {B G : Nat} (h : w.grownBy w2 (some G)) (hB : B ≤ G) (hs : B ≤ w.heap.size) : Below B w w2 :=
  ⟨h.os, h.tape, h.output, h.size, fun k hk => h.block k (by omega) (fun e => by simp at e; omega)⟩
theorem Wk0.cutOff {G : Nat} {H K D : List Nat} {m : Nat} {lv lv' : Value} {w : World} {k : Nat} (h : Wk0 G H K D m lv w) (hl : OQ w (G + 1) 1 lv' (D.drop k).length (u8s (D.drop k))) : Wk G H K (D.drop k) m lv' (w.setCell ⟨G, 72, none⟩ lv') := by
  have := set_blk h.blk 72 lv'
  rw [wk_set72 h.h8 h.k64] at this
  exact ⟨h.h8, h.hb, h.k64, h.kb, fun x hx => h.bb x (List.mem_of_mem_drop hx), this, hl.far (fun e => by have := (hl.lt G (by simpa using e)).1; omega) _⟩

set_option maxRecDepth 100000 in
set_option maxHeartbeats 4000000 in
theorem put_any (H K buf xs : List Nat) (lv v : Value) (m : Nat) (w : World) (G B : Nat) (hB : B ≤ G) (hw : Wk G H K buf m lv w) (hx : ∀ x ∈ xs, x < 256) (hlen : buf.length + xs.length ≤ 100000) (hm : m + xs.length ≤ 100000000) (hv : Rd w v xs.length (u8s xs)) (hvG : u8s xs = [] ∨ v.ownBlock ≠ some G) :
    Calls Try.prog 23 #[.pointer (some ⟨G, 0, none⟩), v] w fun e w' =>
      e = .returned (.tuple #[]) ∧ Below B w w' ∧ ∃ lv', Wk G (hsN K H (buf ++ xs) ((buf ++ xs).length / 64)) K ((buf ++ xs).drop (64 * ((buf ++ xs).length / 64))) (m + xs.length) lv' w' := by
  have s73 : w.cell? ⟨G, 73, none⟩ = some (.int .u64 (m : Int)) := by rw [cell_blk hw.blk]; exact wk_73 hw.h8 hw.k64
  have f73 : w.frozen? ⟨G, 73, none⟩ = false := frozen_blk hw.blk _
  have s72 : w.cell? ⟨G, 72, none⟩ = some lv := by rw [cell_blk hw.blk]; exact wk_72 hw.h8 hw.k64
  have hGs : G < w.heap.size := blk_of_cell s72
  obtain ⟨va, vc, rfl, hvc⟩ : ∃ a c, v = .slice a xs.length c ∧ True := by obtain ⟨a, c, rfl, _⟩ := hv; exact ⟨a, c, rfl, trivial⟩
  obtain ⟨i0, hi0, hz0, hz1, hz2⟩ := info_parts (P := Try.prog) (e := 5) (z := .int .u8 0) (size := 1) (bytes := 1) (by kernel_rfl)
  have hw1 : Wk G H K buf (m + xs.length) lv (w.setCell ⟨G, 73, none⟩ (.int .u64 ((m : Int) + (xs.length : Int)))) := by
    have := set_blk hw.blk 73 (.int .u64 ((m : Int) + (xs.length : Int)))
    rw [show ((m : Int) + (xs.length : Int)) = ((m + xs.length : Nat) : Int) from by omega, wk_set73 hw.h8 hw.k64] at this
    exact ⟨hw.h8, hw.hb, hw.k64, hw.kb, hw.bb, by rw [show ((m : Int) + (xs.length : Int)) = ((m + xs.length : Nat) : Int) from by omega]; exact this, hw.left.far (fun e => by have := (hw.left.lt G (by simpa using e)).1; omega) _⟩
  have hv1 : Rd (w.setCell ⟨G, 73, none⟩ (.int .u64 ((m : Int) + (xs.length : Int)))) (.slice va xs.length vc) xs.length (u8s xs) := hv.far hvG _
  have hb1 : Below B w (w.setCell ⟨G, 73, none⟩ (.int .u64 ((m : Int) + (xs.length : Int)))) := (Below.refl _ _).setCell hB _
  have hin : Src Try.prog 1 38 (.slice va xs.length vc) xs.length (u8s xs) (w.setCell ⟨G, 73, none⟩ (.int .u64 ((m : Int) + (xs.length : Int)))) :=
    Src.ofRd (e' := 5) (by kernel_rfl) hv1 (by simp [u8s]) (by decide) (fun u hu => by obtain ⟨j, _, rfl⟩ := List.mem_map.1 hu; rfl)
  have HW1 := Lib.hid hw1
  have HB1 := Lib.hid hb1
  have HIN := Lib.hid hin
  have HX := Lib.hid hx
  have HI0 := Lib.hid hi0
  have HZ0 := Lib.hid hz0
  have HZ1 := Lib.hid hz1
  have HZ2 := Lib.hid hz2
  clear hw hv hvG hw1 hv1 hb1 hin hx hi0 hz0 hz1 hz2
  go_enter Try.func23, Try.ntmps23
  go_wp2_with (at_builtin; refine wp_appQ rfl (.tmp 18) (.tmp 19) 38 38 rfl (G + 1) 5 i0 (.int .u8 0) 1 1 (by kernel_rfl) HI0.out HZ0.out HZ1.out HZ2.out rfl lv buf.length (u8s buf) rfl HW1.out.left _ xs.length (u8s xs) rfl HIN.out (by unfold maxLen; omega) (by omega) (by simp [World.setCell]; omega) ?_; intro v2 w2 h1 h2 h3; obtain ⟨a2, c2, rfl⟩ := h1.slice; have h4 := HW1.out.appended HX.out h1 h2; have t72 := h4.cell72; have g72 := h4.frozen72; have H1 := Lib.hid h1; have H2 := Lib.hid h2; have H4 := Lib.hid h4; clear h1 h2 h3 h4)
  have hw3 := H4.out.stored (lv' := .slice a2 (buf.length + xs.length) c2) (by rw [List.length_append, u8s_app]; exact H1.out)
  have hb3 : Below B w (w2.setCell ⟨G, 72, none⟩ (.slice a2 (buf.length + xs.length) c2)) := ((HB1.out.trans ((Wk.belowOf H2.out HW1.out.left (by omega) (by simp [World.setCell]; omega)).mono (Nat.le_refl _)))).setCell hB _
  have HW3 := Lib.hid hw3
  have HB3 := Lib.hid hb3
  clear hw3 hb3 H1 H2 H4 t72 g72 HIN HI0 HZ0 HZ1 HZ2 s73 f73 s72
  go_loopg [] ((buf ++ xs).length / 64) (fun k wr => ∃ n lvv, k = (buf ++ xs).length / 64 - n ∧ 64 * n ≤ (buf ++ xs).length ∧ Wk G (hsN K H (buf ++ xs) n) K ((buf ++ xs).drop (64 * n)) (m + xs.length) lvv wr ∧ Below B w wr)
  case atStart => exact ⟨0, _, rfl, by omega, HW3.out, HB3.out⟩
  case round =>
    obtain ⟨n, lvv, rfl, hn, hw, hb⟩ := hrel
    obtain ⟨T, hT⟩ : ∃ T, T = buf ++ xs := ⟨_, rfl⟩
    have hTl : T.length ≤ 100000 := by rw [hT, List.length_append]; exact hlen
    rw [← hT] at hn hw
    obtain ⟨D, hD⟩ : ∃ D, D = T.drop (64 * n) := ⟨_, rfl⟩
    rw [← hD] at hw
    have hDl : D.length = T.length - 64 * n := by rw [hD, List.length_drop]
    obtain ⟨a3, c3, rfl⟩ := hw.left.slice
    have s72 : wr.cell? ⟨G, 72, none⟩ = some (.slice a3 D.length c3) := by rw [cell_blk hw.blk]; exact wk_72 hw.h8 hw.k64
    have f72 : wr.frozen? ⟨G, 72, none⟩ = false := frozen_blk hw.blk _
    have hDb : D.length ≤ 100000 := by omega
    have HT := Lib.hid hT
    have HD := Lib.hid hD
    have HDL := Lib.hid hDl
    have HWr := Lib.hid hw
    have HBr := Lib.hid hb
    have HN := Lib.hid hn
    clear hT hD hDl hw hb hn
    by_cases h64 : 64 ≤ D.length
    · have hq := HWr.out.left.cut h64
      obtain ⟨g, off, rfl, hcc, hmx, hrd⟩ := hq
      unfold maxLen at hmx
      have HRD := Lib.hid hrd; clear hrd
      have hD64 : ∀ x ∈ D.take 64, x < 256 := fun x hx => HWr.out.bb x (List.mem_of_mem_take hx)
      have hDt : (D.take 64).length = 64 := by rw [List.length_take]; omega
      have hrow := fun (w : World) (h1 : w.heap[G]? = _) (h2 : Rd w _ 64 _) => row_any (hsN K H T n) K (D.take 64) [.slice (some ⟨g, off, none⟩) D.length c3, .int .u64 ((m + xs.length : Nat) : Int)] HWr.out.h8 HWr.out.hb HWr.out.k64 HWr.out.kb hD64 hDt (.slice (some ⟨g, off, none⟩) 64 c3) w G 54 h1 h2
      have HROW := Lib.hid hrow; clear hrow hD64 hDt
      go_wp2_with fail
      go_region_with ((go_at_call 33; go_must (refine (HROW.out wr.drew HWr.out.blk (HRD.out.below ((Qt.refl wr).drew))).mono ?_); rintro e w4 ⟨rfl, q1, q2⟩))
      have hw5 : Wk0 G (hsN K H T (n + 1)) K D (m + xs.length) (.slice (some ⟨g, off, none⟩) D.length c3) w4 :=
        ⟨(rowH_ok HWr.out.h8).1, (rowH_ok HWr.out.h8).2, HWr.out.k64, HWr.out.kb, HWr.out.bb, by rw [q2, hsN, HD.out]; rfl⟩
      have hl5 : OQ w4 (G + 1) 1 (.slice (some ⟨g, off, none⟩) D.length c3) D.length (u8s D) := HWr.out.left.drew.grown q1 (.inr (fun e => by have := (HWr.out.left.lt G e.symm).1; omega))
      have hb5 : Below B w w4 := HBr.out.drew.trans (Wk.belowG q1 hB (by have := heap_lt HWr.out.blk; exact Nat.le_of_lt (Nat.lt_of_le_of_lt hB this)))
      have t72 := hw5.cell72
      have g72 := hw5.frozen72
      have HW5 := Lib.hid hw5
      have HL5 := Lib.hid hl5
      have HB5 := Lib.hid hb5
      clear q1 q2 hw5 hl5 hb5 HROW HRD s72 f72
      by_cases hc : c3 = 64
      · have hDe : D.length = 64 := by omega
        have hfin := HW5.out.cutOff (lv' := .slice (some ⟨g, off, none⟩) 0 0) (k := 64) (by rw [List.length_drop, hDe]; have := HL5.out.none_left; rw [List.drop_eq_nil_of_le (by omega)]; exact this)
        rw [HD.out, List.drop_drop, show 64 * n + 64 = 64 * (n + 1) from by omega] at hfin
        have HF := Lib.hid hfin
        clear hfin
        have HDE := Lib.hid hDe
        subst hc
        have hDi : (D.length : Int) = 64 := by omega
        clear hDe
        go_wp2_with fail
        go_roundg ((buf ++ xs).length / 64 - (n + 1))
        case measure => have h1 := HDL.out; have h2 := HN.out; rw [← HT.out]; omega
        case rel => exact ⟨n + 1, _, rfl, by have h1 := HDL.out; have h2 := HN.out; rw [← HT.out]; omega, by rw [← HT.out]; exact HF.out, HB5.out.setCell hB _⟩
      · have hfin := HW5.out.cutOff (k := 64) (by rw [List.length_drop]; have := HL5.out.tail h64; rw [← u8s_drop] at this; exact this)
        rw [HD.out, List.drop_drop, show 64 * n + 64 = 64 * (n + 1) from by omega] at hfin
        have HF := Lib.hid hfin
        clear hfin
        have hc1 : 64 < c3 := by omega
        have hc2 : ¬ (c3 : Int) = 64 := by omega
        go_wp2_with fail
        go_roundg ((buf ++ xs).length / 64 - (n + 1))
        case measure => have h1 := HDL.out; have h2 := HN.out; rw [← HT.out]; omega
        case rel => exact ⟨n + 1, _, rfl, by have h1 := HDL.out; have h2 := HN.out; rw [← HT.out]; omega, by rw [← HT.out, HD.out]; exact HF.out, HB5.out.setCell hB _⟩
    · go_wp2_with fail
      have h1 := HDL.out
      have h2 := HN.out
      have hTn : n = T.length / 64 := by omega
      refine bodyPost_end (results_none rfl _ _ _) rfl ⟨rfl, HBr.out, .slice a3 D.length c3, ?_⟩
      rw [← HT.out, ← hTn, ← HD.out]
      exact HWr.out
end Go.Proofs.Ytjpimfbkdighfaa
