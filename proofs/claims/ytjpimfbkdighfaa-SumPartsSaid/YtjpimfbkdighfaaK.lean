import Derived.Test.YtjpimfbkdighfaaB
import Derived.Deep.MidRow
import Derived.OwnWalk
/-! What is handed in: copies with marks behind their ends (moidorekit). -/
namespace Go.Proofs.Ytjpimfbkdighfaa
open Go.RowKit

theorem OQ.ofOwns {w : World} {base : Nat} {e : TypeId} {size : Nat} {v : Value} {n : Nat} {xs : List Value} (h : w.ownsRow base e size v n xs) : OQ w base size v n xs := by
  obtain ⟨h1, h2 | ⟨g, cap, cur, rfl, hb, hg, hn, hm, hc, hx⟩⟩ := h
  · exact ⟨h1, .inl h2⟩
  · have hgs : g < w.heap.size := by
      rcases Nat.lt_or_ge g w.heap.size with h' | h'
      · exact h'
      · rw [Array.getElem?_eq_none h'] at hg; cases hg
    refine ⟨h1, .inr ⟨g, 0, cap, rfl, hb, hgs, hn, hm, fun j hj => ?_, fun j u hu => ?_⟩⟩
    · refine ⟨?_, by simp [World.frozen?, hg]⟩
      rw [Nat.zero_add, show w.cell? ⟨g, j, none⟩ = cur[j]? from by simp [World.cell?, hg], Array.getElem?_eq_getElem (by omega)]; rfl
    · rw [Nat.zero_add, show w.cell? ⟨g, j, none⟩ = cur[j]? from by simp [World.cell?, hg]]
      rw [← hx] at hu
      have hj : j < (cur.toList.take (n * size)).length := (List.getElem?_eq_some_iff.1 hu).1
      rw [List.getElem?_take] at hu
      split at hu
      · simpa using hu
      · cases hu
theorem OQ.slice {w : World} {base size n : Nat} {v : Value} {xs : List Value} (h : OQ w base size v n xs) : ∃ a c, v = .slice a n c := by
  obtain ⟨_, ⟨rfl, rfl⟩ | ⟨g, off, cap, rfl, _⟩⟩ := h
  · exact ⟨_, _, rfl⟩
  · exact ⟨_, _, rfl⟩

/-- Bytes, as cells. -/
def u8s (b : List Nat) : List Value := b.map fun (n : Nat) => Value.int .u8 (n : Int)
theorem u8s_app (a b : List Nat) : u8s (a ++ b) = u8s a ++ u8s b := by simp [u8s]
theorem u8s_len (a : List Nat) : (u8s a).length = a.length := by simp [u8s]
theorem u8s_one1 (l : List Nat) : ∀ v ∈ u8s l, v.oneCell' = true := fun v hv => by obtain ⟨j, _, rfl⟩ := List.mem_map.1 hv; rfl

def mkn (k i : Nat) : Nat := 1000003 * (k + 7) + i
def mkb (k i : Nat) : Nat := mkn k i * 11400714819323198485 % 18446744073709551616 / 72057594037927936

theorem mark_any (k i : Nat) (hk : k ≤ 1000) (hi : i ≤ 1000000000) (w : World) : Calls Try.prog 35 #[.int .i64 (k : Int), .int .i64 (i : Int)] w fun e w' => e = .returned (.int .i64 (mkn k i : Nat)) ∧ w = w' := by
  go_enter Try.func35, Try.ntmps35
  go_wp2
  go_ret
  exact ⟨by unfold mkn; congr 2, rfl⟩

theorem markByte_any (k i : Nat) (hk : k ≤ 1000) (hi : i ≤ 1000000000) (w : World) : Calls Try.prog 32 #[.int .i64 (k : Int), .int .i64 (i : Int)] w fun e w' => e = .returned (.int .u8 (mkb k i : Nat)) ∧ w = w' := by
  have hm : mkn k i ≤ 10000000000 := by unfold mkn; omega
  have hb : mkb k i < 256 := by unfold mkb; omega
  have e : mkb k i = mkn k i * 11400714819323198485 % 18446744073709551616 / 72057594037927936 := rfl
  have he := Lib.hid e
  have HB := Lib.hid hb
  clear e hb
  have H := mark_any k i hk hi w
  have HM := Lib.hid H
  clear H
  generalize mkn k i = m at *
  go_enter Try.func32, Try.ntmps32
  go_wp2_with (go_at_call 35; refine HM.out.mono ?_; rintro e w' ⟨rfl, rfl⟩)
  go_ret
  refine ⟨congrArg (fun x => Ending.returned (Value.int .u8 x)) (?_ : IntKind.u64.wrap ((m : Int) * 11400714819323198485) / 72057594037927936 % 256 = _), rfl⟩
  have h1 := HB.out
  rw [IntKind.wrap_u64, he.out]
  rw [he.out] at h1
  have e2 : ((m * 11400714819323198485 % 18446744073709551616 / 72057594037927936 : Nat) : Int) = (m : Int) * 11400714819323198485 % 18446744073709551616 / 72057594037927936 := by simp
  rw [← e2]
  generalize m * 11400714819323198485 % 18446744073709551616 / 72057594037927936 = y at h1
  omega

theorem below_none {w w' : World} {B : Nat} (h : w.grownBy w' none) (hB : B ≤ w.heap.size := by exact Nat.le_refl _) : Below B w w' := ⟨h.os, h.tape, h.output, h.size, fun k hk => h.block k (by omega) (by simp)⟩
theorem below_app {W w w' : World} {base size n : Nat} {v : Value} {xs : List Value} (hb : Below base W w) (ho : OQ w base size v n xs) (h : w.grownBy w' v.ownBlock) (hB : base ≤ W.heap.size := by exact Nat.le_refl _) : Below base W w' :=
  hb.trans ⟨h.os, h.tape, h.output, h.size, fun k hk => h.block k (by have := hb.size; omega) (fun e => by have := (ho.lt k e.symm).1; omega)⟩
theorem rd1_new {w : World} {t : TypeId} {g x : Nat} (hg : g = w.heap.size := by first | rfl | simp) : Rd (w.alloc (.cells #[.int .u8 (x : Int)] t)) (.slice (some ⟨g, 0, none⟩) 1 1) 1 (u8s [x]) := by
  subst hg
  exact ⟨_, _, rfl, Nat.le_refl _, .inr ⟨_, _, rfl, fun j u hu => by
    rw [World.cell?_alloc_new]
    match j, hu with
    | 0, hu => exact hu⟩⟩
theorem rdv_new {w : World} {t : TypeId} {g : Nat} {x : Value} (hg : g = w.heap.size := by first | rfl | simp) : Rd (w.alloc (.cells #[x] t)) (.slice (some ⟨g, 0, none⟩) 1 1) 1 [x] := by
  subst hg
  exact ⟨_, _, rfl, Nat.le_refl _, .inr ⟨_, _, rfl, fun j u hu => by
    rw [World.cell?_alloc_new]
    match j, hu with
    | 0, hu => exact hu⟩⟩
theorem OQ.lenCap {w : World} {base n c : Nat} {a : Option Addr} {xs : List Value} (h : OQ w base 1 (.slice a n c) n xs) : n ≤ c ∧ c ≤ 9223372036854775807 := by
  obtain ⟨_, ⟨h2, _⟩ | ⟨g, off, cap, h2, _, _, h3, h4, _⟩⟩ := h
  · cases h2; exact ⟨Nat.le_refl _, by omega⟩
  · cases h2; exact ⟨h3, by unfold maxLen at h4; omega⟩
theorem OQ.some_of {w : World} {base n c : Nat} {a : Option Addr} {xs : List Value} (h : OQ w base 1 (.slice a n c) n xs) (h0 : 0 < n) : ∃ g off, a = some ⟨g, off, none⟩ := by
  obtain ⟨_, ⟨_, h2⟩ | ⟨g, off, cap, h2, _⟩⟩ := h
  · omega
  · cases h2; exact ⟨_, _, rfl⟩

/-- A copy of bytes, with marks in its spare room. -/
structure Lent (w : World) (base : Nat) (v : Value) (xs : List Nat) : Prop where
  ex : ∃ g off c, v = .slice (some ⟨g, off, none⟩) xs.length c ∧ base ≤ g ∧ g < w.heap.size ∧ xs.length + 12 ≤ c ∧ c ≤ maxLen ∧ ∀ j u, (u8s (xs ++ (List.range 12).map (mkb 1)))[j]? = some u → w.cell? ⟨g, off + j, none⟩ = some u
  lt : ∀ x ∈ xs, x < 256

theorem OQ.lent {w : World} {base c g off : Nat} {xs : List Nat} (h : OQ w base 1 (.slice (some ⟨g, off, none⟩) (xs.length + 12) c) (xs.length + 12) (u8s (xs ++ (List.range 12).map (mkb 1)))) :
    ∃ g' off' c', (Value.slice (some ⟨g, off, none⟩) xs.length c) = .slice (some ⟨g', off', none⟩) xs.length c' ∧ base ≤ g' ∧ g' < w.heap.size ∧ xs.length + 12 ≤ c' ∧ c' ≤ maxLen ∧ ∀ j u, (u8s (xs ++ (List.range 12).map (mkb 1)))[j]? = some u → w.cell? ⟨g', off' + j, none⟩ = some u := by
  obtain ⟨_, ⟨h2, _⟩ | ⟨g', off', cap, h2, r1, r2, r3, r4, _, r5⟩⟩ := h
  · cases h2
  · cases h2; exact ⟨_, _, _, rfl, r1, r2, r3, r4, r5⟩

set_option maxRecDepth 100000 in
set_option maxHeartbeats 1000000 in
theorem lentBytes_any (xs : List Nat) (hx : ∀ x ∈ xs, x < 256) (hl : xs.length ≤ 100000) (v : Value) (w : World) (hv : Rd w v xs.length (u8s xs)) :
    Calls Try.prog 20 #[v] w fun e w' => ∃ r, e = .returned r ∧ Lent w' w.heap.size r xs ∧ Qt w w' := by
  obtain ⟨va, vc, rfl, hvc⟩ : ∃ a c, v = .slice a xs.length c ∧ True := by obtain ⟨a, c, rfl, _⟩ := hv; exact ⟨a, c, rfl, trivial⟩
  obtain ⟨i0, hi0, hz0, hz1, hz2⟩ := info_parts (P := Try.prog) (e := 5) (z := .int .u8 0) (size := 1) (bytes := 1) (by kernel_rfl)
  have HV := Lib.hid hv
  have HX := Lib.hid hx
  have HI0 := Lib.hid hi0
  have HZ0 := Lib.hid hz0
  have HZ1 := Lib.hid hz1
  have HZ2 := Lib.hid hz2
  clear hv hx hi0 hz0 hz1 hz2
  go_enter Try.func20, Try.ntmps20
  go_wp2_with (first
    | (at_make; go_must (refine wpList_make_own w rfl (.const (.int .i64 0)) (.tmp 7) 38 rfl w.heap.size 5 i0 (.int .u8 0) 1 (by kernel_rfl) HI0.out HZ0.out HZ1.out .i64 .i64 _ (xs.length + 12) rfl rfl (by omega) (by rw [HZ2.out]; omega) (by unfold maxLen; omega) (Nat.le_refl _) ?_); intro w1 h1 h2; (have H1 := Lib.hid (OQ.ofOwns h1)); (have H2 := Lib.hid (below_none h2)); clear h1 h2)
    | (at_builtin; go_must (refine wp_appQ rfl (.tmp 9) (.tmp 10) 38 38 rfl w.heap.size 5 i0 (.int .u8 0) 1 1 (by kernel_rfl) HI0.out HZ0.out HZ1.out HZ2.out rfl _ 0 [] rfl H1.out _ xs.length (u8s xs) rfl (Src.ofRd (e' := 5) (by kernel_rfl) (HV.out.below H2.out) (by rw [u8s_len, Nat.mul_one]) (by decide) (u8s_one1 xs)) (by unfold maxLen; omega) (by omega) H2.out.size ?_); intro v2 w2 h1 h2 h3; (have hb2 := below_app H2.out H1.out h2); obtain ⟨a2, c2, rfl⟩ := h1.slice; (have H1 := Lib.hid h1); (have HB2 := Lib.hid hb2); clear h1 h2 h3 hb2))
  go_loopw [3, 4] (fun o i wr => ∃ k : Nat, k ≤ 12 ∧ i = .int .i64 k ∧ OQ wr w.heap.size 1 o (xs.length + k) (u8s (xs ++ (List.range k).map (mkb 1))) ∧ Below w.heap.size w wr) (fun _ i _ => 12 - (intOf i).toNat)
  case atStart => exact ⟨0, by omega, rfl, by simpa using H1.out, HB2.out⟩
  case round =>
    obtain ⟨k, hk, rfl, ho, hb⟩ := hrel
    obtain ⟨a3, c3, rfl⟩ := ho.slice
    have HO := Lib.hid ho
    have HB := Lib.hid hb
    clear ho hb
    by_cases h12 : k < 12
    · have HM := fun w => markByte_any 1 k (by omega) (by omega) w
      have HMM := Lib.hid HM
      clear HM
      go_wp2_with (first
        | (go_at_call 32; refine (HMM.out _).mono ?_; rintro e w' ⟨rfl, rfl⟩)
        | (at_builtin; go_must (refine wp_appQ rfl (.tmp 16) (.tmp 19) 38 38 rfl w.heap.size 5 i0 (.int .u8 0) 1 1 (by kernel_rfl) HI0.out HZ0.out HZ1.out HZ2.out rfl _ (xs.length + k) _ rfl (HO.out.alloc _) _ 1 (u8s [mkb 1 k]) rfl (Src.ofRd (e' := 5) (by kernel_rfl) rd1_new (by rw [u8s_len]; rfl) (by decide) (u8s_one1 _)) (by unfold maxLen; omega) (by omega) (Nat.le_trans HB.out.size (by simp)) ?_); intro v2 w2 h1 h2 h3; (have hb2 := below_app (HB.out.alloc HB.out.size _) (HO.out.alloc _) h2); (have H1 := Lib.hid h1); (have HB2 := Lib.hid hb2); clear h1 h2 h3 hb2))
      go_roundw
      case rel => exact ⟨k + 1, by omega, by go_num, by have := H1.out; rw [← u8s_app] at this; rw [List.range_succ, List.map_append, ← List.append_assoc]; exact this, HB2.out⟩
      case measure => simp [intOf]; omega
    · obtain rfl : k = 12 := by omega
      have hlen := HO.out.lenCap
      obtain ⟨g, off, rfl⟩ := HO.out.some_of (by omega)
      go_wp2
      go_ret
      exact ⟨_, rfl, ⟨HO.out.lent, HX.out⟩, HB.out⟩

theorem Lent.lt_size {w : World} {base : Nat} {u : Value} {x : List Nat} (h : Lent w base u x) : ∃ g, u.ownBlock = some g ∧ base ≤ g ∧ g < w.heap.size ∧ u.oneCell' = true := by
  obtain ⟨⟨g, off, c, rfl, h1, h2, _⟩, _⟩ := h
  exact ⟨g, rfl, h1, h2, rfl⟩
theorem Lent.form {w : World} {base : Nat} {u : Value} {x : List Nat} (h : Lent w base u x) : ∃ g off c, u = .slice (some ⟨g, off, none⟩) x.length c := by
  obtain ⟨⟨g, off, c, rfl, _⟩, _⟩ := h
  exact ⟨_, _, _, rfl⟩
theorem Lent.keep {w w' : World} {base : Nat} {u : Value} {x : List Nat} (h : Lent w base u x) (hs : w.heap.size ≤ w'.heap.size) (hk : ∀ g, u.ownBlock = some g → w'.heap[g]? = w.heap[g]?) : Lent w' base u x := by
  obtain ⟨⟨g, off, c, rfl, h1, h2, h3, h4, h5⟩, hl⟩ := h
  refine ⟨⟨g, off, c, rfl, h1, by omega, h3, h4, fun j u hu => ?_⟩, hl⟩
  rw [World.cell?_of_block (w := w) (a := ⟨g, off + j, none⟩) (hk g rfl)]
  exact h5 j u hu
theorem Lent.below {w w' : World} {base : Nat} {u : Value} {x : List Nat} (h : Lent w base u x) (hb : Qt w w') : Lent w' base u x :=
  h.keep hb.size fun g hg => hb.block g (by obtain ⟨g', e, _, h2, _⟩ := h.lt_size; rw [e] at hg; cases hg; exact h2)
theorem Lent.grown {w w' : World} {base : Nat} {u : Value} {x : List Nat} (h : Lent w base u x) {row : Option Nat} (hg : w.grownBy w' row) (hne : u.ownBlock ≠ row) : Lent w' base u x := by
  obtain ⟨g', e, _, h2, _⟩ := h.lt_size
  refine h.keep hg.size fun g hg' => hg.block g ?_ (fun e' => hne (by rw [hg', e']))
  rw [e] at hg'; cases hg'; exact h2
theorem Lent.lower {w : World} {base base' : Nat} {u : Value} {x : List Nat} (h : Lent w base u x) (hb : base' ≤ base) : Lent w base' u x := by
  obtain ⟨⟨g, off, c, rfl, h1, h2, h3⟩, hl⟩ := h
  exact ⟨⟨g, off, c, rfl, by omega, h2, h3⟩, hl⟩
theorem Lent.rd {w : World} {base : Nat} {u : Value} {x : List Nat} (h : Lent w base u x) : Rd w u x.length (u8s x) := by
  obtain ⟨⟨g, off, c, rfl, h1, h2, h3, h4, h5⟩, hl⟩ := h
  refine ⟨_, _, rfl, by omega, .inr ⟨g, off, rfl, fun j u hu => h5 j u ?_⟩⟩
  have := (List.getElem?_eq_some_iff.1 hu).1
  rw [u8s_app, List.getElem?_append_left this]; exact hu

/-- Slices of bytes in a slice. -/
structure Parts (w : World) (v : Value) (xss : List (List Nat)) : Prop where
  rd : ∃ vs : List Value, Rd w v xss.length vs ∧ vs.length = xss.length ∧ ∀ (j : Nat) (x : List Nat), xss[j]? = some x → ∃ u, vs[j]? = some u ∧ Rd w u x.length (u8s x)
  lt : ∀ x ∈ xss, ∀ y ∈ x, y < 256

structure LentRs (w : World) (base : Nat) (r : Value) (xss : List (List Nat)) : Prop where
  ex : ∃ vs, OQ w base 1 r xss.length vs ∧ (∀ u ∈ vs, u.ownBlock ≠ r.ownBlock) ∧ (∀ u ∈ vs, ∃ x, Lent w base u x) ∧ ∀ (j : Nat) (x : List Nat), xss[j]? = some x → ∃ u, vs[j]? = some u ∧ Lent w base u x
theorem LentRs.below {w w' : World} {base : Nat} {r : Value} {xss : List (List Nat)} (h : LentRs w base r xss) (hb : Qt w w') : LentRs w' base r xss := by
  obtain ⟨vs, h1, h2, h3, h4⟩ := h
  exact ⟨vs, h1.below hb, h2, fun u hu => let ⟨x, hx⟩ := h3 u hu; ⟨x, hx.below hb⟩, fun j x hx => let ⟨u, hu, hl⟩ := h4 j x hx; ⟨u, hu, hl.below hb⟩⟩
theorem LentRs.parts {w : World} {base : Nat} {r : Value} {xss : List (List Nat)} (h : LentRs w base r xss) : Parts w r xss := by
  obtain ⟨vs, h1, h2, h3, h4⟩ := h
  refine ⟨⟨vs, Rd.of_OQ h1, by have := h1.1; omega, fun j x hx => let ⟨u, hu, hl⟩ := h4 j x hx; ⟨u, hu, hl.rd⟩⟩, fun x hx => ?_⟩
  obtain ⟨j, hj⟩ := List.mem_iff_getElem?.1 hx
  obtain ⟨u, _, hl⟩ := h4 j x hj
  exact hl.lt
/-- One more. -/
theorem LentRs.snoc {w w' : World} {base n : Nat} {r r' u : Value} {vs : List Value} {xss : List (List Nat)} {x : List Nat} (hn : xss.length = n)
    (h2 : ∀ u ∈ vs, u.ownBlock ≠ r.ownBlock) (h3 : ∀ u ∈ vs, ∃ x, Lent w base u x) (h4 : ∀ (j : Nat) (x : List Nat), xss[j]? = some x → ∃ u, vs[j]? = some u ∧ Lent w base u x) (hvs : vs.length = n)
    (hu : Lent w base u x) (hur : u.ownBlock ≠ r.ownBlock) (ho : OQ w' base 1 r' (n + 1) (vs ++ [u])) (hg : w.grownBy w' r.ownBlock) (hr : r'.ownBlock = r.ownBlock ∨ ∃ g, r'.ownBlock = some g ∧ w.heap.size ≤ g) : LentRs w' base r' (xss ++ [x]) := by
  have hne : ∀ y ∈ vs ++ [u], y.ownBlock ≠ r.ownBlock := by
    intro y hy
    rcases List.mem_append.1 hy with hy | hy
    · exact h2 y hy
    · rw [List.mem_singleton.1 hy]; exact hur
  have hle : ∀ y ∈ vs ++ [u], ∃ x, Lent w base y x := by
    intro y hy
    rcases List.mem_append.1 hy with hy | hy
    · exact h3 y hy
    · rw [List.mem_singleton.1 hy]; exact ⟨x, hu⟩
  refine ⟨vs ++ [u], by rw [List.length_append, hn]; exact ho, fun y hy e => ?_, fun y hy => ?_, fun j x' hx => ?_⟩
  · rcases hr with hr | ⟨g, hr, hg'⟩
    · exact hne y hy (e.trans hr)
    · obtain ⟨x, hx⟩ := hle y hy
      obtain ⟨g2, e2, _, h5, _⟩ := hx.lt_size
      rw [e2, hr] at e
      cases e
      omega
  · obtain ⟨x, hx⟩ := hle y hy
    exact ⟨x, hx.grown hg (hne y hy)⟩
  · by_cases hj : j < n
    · rw [List.getElem?_append_left (by omega)] at hx
      obtain ⟨y, hy, hl⟩ := h4 j x' hx
      exact ⟨y, by rw [List.getElem?_append_left (by omega)]; exact hy, hl.grown hg (h2 y (List.mem_of_getElem? hy))⟩
    · rw [List.getElem?_append_right (by omega)] at hx
      have h0 : j - xss.length = 0 := by
        rcases Nat.eq_zero_or_pos (j - xss.length) with h | h
        · exact h
        · rw [List.getElem?_eq_none (by simp; omega)] at hx; cases hx
      rw [h0] at hx
      cases hx
      exact ⟨u, by rw [List.getElem?_append_right (by omega), show j - vs.length = 0 from by omega]; rfl, hu.grown hg hur⟩

set_option maxRecDepth 100000 in
set_option maxHeartbeats 1000000 in
theorem lentRows_any (xss : List (List Nat)) (v : Value) (w : World) (hv : Parts w v xss) (hn : xss.length ≤ 100000) (hl : ∀ x ∈ xss, x.length ≤ 100000) :
    Calls Try.prog 9 #[v] w fun e w' => ∃ r, e = .returned r ∧ LentRs w' w.heap.size r xss ∧ Qt w w' := by
  obtain ⟨⟨vs, hvs, hvl, hvr⟩, hlt⟩ := hv
  obtain ⟨a, c, rfl, hc, h0⟩ := hvs
  obtain ⟨i0, hi0, hz0, hz1, hz2⟩ := info_parts (P := Try.prog) (e := 38) (z := .slice none 0 0) (size := 1) (bytes := 24) (by kernel_rfl)
  have HLT := Lib.hid hlt; clear hlt
  have HVR := Lib.hid hvr; clear hvr
  have HVL := Lib.hid hvl; clear hvl
  have H0 := Lib.hid h0; clear h0
  have HL := Lib.hid hl; clear hl
  have HI0 := Lib.hid hi0
  have HZ0 := Lib.hid hz0
  have HZ1 := Lib.hid hz1
  have HZ2 := Lib.hid hz2
  clear hi0 hz0 hz1 hz2
  go_enter Try.func9, Try.ntmps9
  go_wp2
  go_loopw [3, 4] (fun o i wr => ∃ k : Nat, k ≤ xss.length ∧ i = .int .i64 k ∧ LentRs wr w.heap.size o (xss.take k) ∧ Below w.heap.size w wr) (fun _ i _ => xss.length - (intOf i).toNat)
  case atStart => exact ⟨0, by omega, rfl, ⟨[], OQ.nil _ _ _, (fun u hu => by cases hu), (fun u hu => by cases hu), (fun j x hx => by simp at hx)⟩, Below.refl _ _⟩
  case round =>
    obtain ⟨k, hk, rfl, ho, hb⟩ := hrel
    obtain ⟨us, ho1, ho2, ho3, ho4⟩ := ho
    rw [List.length_take, Nat.min_eq_left hk] at ho1
    obtain ⟨a3, c3, rfl⟩ := ho1.slice
    have HO1 := Lib.hid ho1
    have HO2 := Lib.hid ho2
    have HO3 := Lib.hid ho3
    have HO4 := Lib.hid ho4
    have HB := Lib.hid hb
    clear ho1 ho2 ho3 ho4 hb
    by_cases hlt : k < xss.length
    · obtain ⟨xs, hxs⟩ : ∃ xs, xs = xss[k] := ⟨_, rfl⟩
      have hxk : xss[k]? = some xs := by rw [List.getElem?_eq_getElem hlt, hxs]
      obtain ⟨u, hu, hur⟩ := HVR.out k xs hxk
      obtain ⟨b, off, rfl, hcell⟩ : ∃ b off, a = some ⟨b, off, none⟩ ∧ w.cell? ⟨b, off + k, none⟩ = some u := by
        rcases H0.out with rfl | ⟨b, off, rfl, g⟩
        · simp at hu
        · exact ⟨b, off, rfl, g k _ hu⟩
      have c0 : wr.cell? ⟨b, off + k, none⟩ = some u := (HB.out.cell (p := ⟨b, off + k, none⟩) (blk_of_cell hcell)).trans hcell
      have hlb := lentBytes_any xs (HLT.out xs (List.mem_of_getElem? hxk)) (HL.out xs (List.mem_of_getElem? hxk)) u wr (hur.below HB.out)
      have HLB := Lib.hid hlb
      have hst : xss.take (k + 1) = xss.take k ++ [xs] := by rw [List.take_succ_eq_append_getElem hlt, hxs]
      have HST := Lib.hid hst
      clear hlb hst hur hu hxk hxs hcell
      go_wp2_with (first
        | (go_at_call 20; refine HLB.out.mono ?_; rintro e w2 ⟨r, rfl, hr, q⟩; obtain ⟨g3, f3, k3, rfl⟩ := hr.form; (have HR := Lib.hid hr); (have HQ := Lib.hid q); clear hr q)
        | (at_builtin; go_must (refine wp_appQ rfl (.tmp 11) (.tmp 17) 22 22 rfl w.heap.size 38 i0 (.slice none 0 0) 1 24 (by kernel_rfl) HI0.out HZ0.out HZ1.out HZ2.out rfl _ k us rfl ((HO1.out.below HQ.out).alloc _) _ 1 [.slice (some ⟨g3, f3, none⟩) xs.length k3] rfl (Src.ofRd (e' := 38) (by kernel_rfl) rdv_new rfl (by decide) (fun y hy => by obtain ⟨_, _, _, _, h⟩ := HR.out.lt_size; rw [List.mem_singleton.1 hy]; exact h)) (by unfold maxLen; omega) (by omega) (Nat.le_trans HB.out.size (Nat.le_trans HQ.out.size (by simp))) ?_); intro v2 w3 h1 h2 h3; (have H1 := Lib.hid h1); (have H2 := Lib.hid h2); (have H3 := Lib.hid h3); clear h1 h2 h3))
      have hq := HQ.out
      have hsz := HB.out.size
      have hal := (HR.out.lower hsz).below ((Qt.refl w2).alloc (.cells #[.slice (some ⟨g3, f3, none⟩) xs.length k3] 38))
      have hq2 : Qt wr (w2.alloc (.cells #[.slice (some ⟨g3, f3, none⟩) xs.length k3] 38)) := hq.alloc _
      have hne : (Value.slice (some ⟨g3, f3, none⟩) xs.length k3).ownBlock ≠ (Value.slice a3 k c3).ownBlock := by
        intro e
        obtain ⟨g4, e4, h4, h5, _⟩ := HR.out.lt_size
        have := (HO1.out.lt g4 (by rw [← e, e4])).2
        omega
      have hsn := LentRs.snoc (by rw [List.length_take]; omega) HO2.out (fun u hu => let ⟨x, hx⟩ := HO3.out u hu; ⟨x, hx.below hq2⟩) (fun j x hx => let ⟨u, hu, hl⟩ := HO4.out j x hx; ⟨u, hu, hl.below hq2⟩) (by have := HO1.out.1; omega) hal hne H1.out H2.out H3.out
      rw [← HST.out] at hsn
      have hb3 := below_app (hb := HB.out.trans (hq2.mono hsz)) ((HO1.out.below hq).alloc _) H2.out
      go_roundw
      case rel => exact ⟨k + 1, by omega, by go_num, hsn, hb3⟩
      case measure => simp [intOf]; omega
    · obtain rfl : k = xss.length := by omega
      go_wp2
      go_ret
      have h4 := HO4.out
      rw [List.take_length] at h4
      exact ⟨_, rfl, ⟨us, HO1.out, HO2.out, HO3.out, h4⟩, HB.out⟩
end Go.Proofs.Ytjpimfbkdighfaa
