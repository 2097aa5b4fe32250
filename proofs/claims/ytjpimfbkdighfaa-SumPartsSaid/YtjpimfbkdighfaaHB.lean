import Derived.Test.YtjpimfbkdighfaaH
import Derived.Test.YtjpimfbkdighfaaT
namespace Go.Proofs.Ytjpimfbkdighfaa
open Go.RowKit

/-- The cells behind: marks. -/
def mkhs : List (List Nat) := (List.range 12).map (mkh 1)
/-- A copy of hashes, with marks in its spare room. -/
structure LentH (w : World) (base : Nat) (v : Value) (l : List (List Nat)) : Prop where
  ex : ∃ g off c, v = .slice (some ⟨g, off, none⟩) l.length c ∧ base ≤ g ∧ g < w.heap.size ∧ l.length + 12 ≤ c ∧ c ≤ maxLen ∧ ∀ j u, (u8s (l ++ mkhs).flatten)[j]? = some u → w.cell? ⟨g, off + j, none⟩ = some u
  len : ∀ h ∈ l, h.length = 32
  lt : ∀ h ∈ l, ∀ x ∈ h, x < 256
theorem LentH.below {w w' : World} {base : Nat} {v : Value} {l : List (List Nat)} (h : LentH w base v l) (hb : Qt w w') : LentH w' base v l := by
  obtain ⟨⟨g, off, c, rfl, h1, h2, h3, h4, h5⟩, hl, ht⟩ := h
  exact ⟨⟨g, off, c, rfl, h1, Nat.lt_of_lt_of_le h2 hb.size, h3, h4, fun j u hu => (hb.cell (p := ⟨g, off + j, none⟩) h2).trans (h5 j u hu)⟩, hl, ht⟩
theorem LentH.hs {w : World} {base : Nat} {v : Value} {l : List (List Nat)} (h : LentH w base v l) : Hs w v l := by
  obtain ⟨⟨g, off, c, rfl, h1, h2, h3, h4, h5⟩, hl, ht⟩ := h
  refine ⟨⟨_, _, rfl, by omega, .inr ⟨g, off, rfl, fun j u hu => h5 j u ?_⟩⟩, hl, ht⟩
  have := (List.getElem?_eq_some_iff.1 hu).1
  rw [List.flatten_append, u8s_app, List.getElem?_append_left this]; exact hu
theorem OQ.lenCapG {w : World} {base size n c : Nat} {a : Option Addr} {xs : List Value} (h : OQ w base size (.slice a n c) n xs) : n ≤ c ∧ c ≤ 9223372036854775807 := by
  obtain ⟨_, ⟨h2, _⟩ | ⟨g, off, cap, h2, _, _, h3, h4, _⟩⟩ := h
  · cases h2; exact ⟨Nat.le_refl _, by omega⟩
  · cases h2; exact ⟨h3, by unfold maxLen at h4; omega⟩
theorem OQ.some_ofG {w : World} {base size n c : Nat} {a : Option Addr} {xs : List Value} (h : OQ w base size (.slice a n c) n xs) (h0 : 0 < n) : ∃ g off, a = some ⟨g, off, none⟩ := by
  obtain ⟨_, ⟨_, h2⟩ | ⟨g, off, cap, h2, _⟩⟩ := h
  · omega
  · cases h2; exact ⟨_, _, rfl⟩
theorem OQ.lentH {w : World} {base c g off n : Nat} {xs : List Value} (h : OQ w base 32 (.slice (some ⟨g, off, none⟩) (n + 12) c) (n + 12) xs) :
    base ≤ g ∧ g < w.heap.size ∧ n + 12 ≤ c ∧ c ≤ maxLen ∧ ∀ j u, xs[j]? = some u → w.cell? ⟨g, off + j, none⟩ = some u := by
  obtain ⟨_, ⟨h2, _⟩ | ⟨g', off', cap, h2, r1, r2, r3, r4, _, r5⟩⟩ := h
  · cases h2
  · cases h2; exact ⟨r1, r2, r3, r4, r5⟩
theorem rdn_newH {w : World} {t : TypeId} {g n : Nat} {xs : List Value} (hg : g = w.heap.size := by first | rfl | simp) : Rd (w.alloc (.cells xs.toArray t)) (.slice (some ⟨g, 0, none⟩) n n) n xs := by
  subst hg
  exact ⟨_, _, rfl, Nat.le_refl _, .inr ⟨_, _, rfl, fun j u hu => by rw [World.cell?_alloc_new, List.getElem?_toArray, Nat.zero_add]; exact hu⟩⟩
theorem zeros32_size : (Value.agg (u8s (List.replicate 32 0)).toArray).cells.size = 32 := by kernel_rfl
theorem fold_one (L : List Nat) (hL : L.length = 32) : List.foldl (fun (cs : Array Value) (x : Value × Nat) => cs.setIfInBounds x.snd x.fst) #[Value.int .u8 0, Value.int .u8 0, Value.int .u8 0, Value.int .u8 0, Value.int .u8 0, Value.int .u8 0, Value.int .u8 0, Value.int .u8 0, Value.int .u8 0, Value.int .u8 0, Value.int .u8 0, Value.int .u8 0, Value.int .u8 0, Value.int .u8 0, Value.int .u8 0, Value.int .u8 0, Value.int .u8 0, Value.int .u8 0, Value.int .u8 0, Value.int .u8 0, Value.int .u8 0, Value.int .u8 0, Value.int .u8 0, Value.int .u8 0, Value.int .u8 0, Value.int .u8 0, Value.int .u8 0, Value.int .u8 0, Value.int .u8 0, Value.int .u8 0, Value.int .u8 0, Value.int .u8 0] (u8s L).zipIdx = (u8s L).toArray := by
  match L, hL with
  | [a0, a1, a2, a3, a4, a5, a6, a7, a8, a9, b0, b1, b2, b3, b4, b5, b6, b7, b8, b9, c0, c1, c2, c3, c4, c5, c6, c7, c8, c9, d0, d1], _ => show (_ : Array Value) = _; kernel_rfl

set_option maxRecDepth 100000 in
set_option maxHeartbeats 2000000 in
theorem lentHashes_any (l : List (List Nat)) (v : Value) (w : World) (hv : Hs w v l) (hn : l.length ≤ 100000) :
    Calls Try.prog 13 #[v] w fun e w' => ∃ r, e = .returned r ∧ LentH w' w.heap.size r l ∧ Qt w w' := by
  obtain ⟨va, vc, rfl⟩ : ∃ a c, v = .slice a l.length c := by obtain ⟨a, c, h, _⟩ := hv.rd; exact ⟨a, c, h⟩
  obtain ⟨i0, hi0, hz0, hz1, hz2⟩ := info_parts (P := Try.prog) (e := 27) (z := .agg (u8s (List.replicate 32 0)).toArray) (size := 32) (bytes := 32) (by kernel_rfl)
  have hfl := flat_len l hv.len
  have HFL := Lib.hid hfl
  have HV := Lib.hid hv
  have HI0 := Lib.hid hi0
  have HZ0 := Lib.hid hz0
  have HZ1 := Lib.hid hz1
  have HZ2 := Lib.hid hz2
  clear hfl hv hi0 hz0 hz1 hz2
  go_enter Try.func13, Try.ntmps13
  go_wp2_with (first
    | (at_make; go_must (refine wpList_make_own w rfl (.const (.int .i64 0)) (.tmp 7) 32 rfl w.heap.size 27 i0 (.agg (u8s (List.replicate 32 0)).toArray) 32 (by kernel_rfl) HI0.out HZ0.out HZ1.out .i64 .i64 _ (l.length + 12) rfl rfl (by omega) (by rw [HZ2.out]; omega) (by unfold maxLen; omega) (Nat.le_refl _) ?_); intro w1 h1 h2; (have H1 := Lib.hid (OQ.ofOwns h1)); (have H2 := Lib.hid (below_none h2)); clear h1 h2)
    | (at_builtin; go_must (refine wp_appQ rfl (.tmp 9) (.tmp 10) 32 32 rfl w.heap.size 27 i0 (.agg (u8s (List.replicate 32 0)).toArray) 32 32 (by kernel_rfl) HI0.out HZ0.out HZ1.out HZ2.out zeros32_size _ 0 [] rfl H1.out _ l.length (u8s l.flatten) rfl (Src.ofRd (e' := 27) (by kernel_rfl) (HV.out.rd.below H2.out) (by rw [u8s_len, HFL.out]) (by decide) (u8s_one1 _)) (by unfold maxLen; omega) (by omega) H2.out.size ?_); intro v2 w2 h1 h2 h3; (have hb2 := below_app H2.out H1.out h2); obtain ⟨a2, c2, rfl⟩ := h1.slice; (have H1 := Lib.hid h1); (have HB2 := Lib.hid hb2); clear h1 h2 h3 hb2))
  go_loopw [3, 4] (fun o i wr => ∃ k : Nat, k ≤ 12 ∧ i = .int .i64 k ∧ OQ wr w.heap.size 32 o (l.length + k) (u8s (l ++ (List.range k).map (mkh 1)).flatten) ∧ Below w.heap.size w wr) (fun _ i _ => 12 - (intOf i).toNat)
  case atStart => exact ⟨0, by omega, rfl, by simpa using H1.out, HB2.out⟩
  case round =>
    obtain ⟨k, hk, rfl, ho, hb⟩ := hrel
    obtain ⟨a3, c3, rfl⟩ := ho.slice
    have HO := Lib.hid ho
    have HB := Lib.hid hb
    clear ho hb
    by_cases h12 : k < 12
    · have hM := fun w => markHash_any 1 k (by omega) (by omega) w
      have hst : u8s (l ++ (List.range (k + 1)).map (mkh 1)).flatten = u8s (l ++ (List.range k).map (mkh 1)).flatten ++ u8s (mkh 1 k) := by
        rw [List.range_succ, List.map_append, ← List.append_assoc, List.flatten_append, u8s_app]; simp
      have hfi := fold_one (mkh 1 k) rfl
      have hml := mkh_len 1 k
      have HST := Lib.hid hst
      have HMM := Lib.hid hM
      clear hM hst
      generalize mkh 1 k = L at *
      have HML := Lib.hid hml
      have hls : (u8s L).length = 32 := by rw [u8s_len, hml]
      clear hml
      go_wp2_with (first
        | (go_at_call 29; refine (HMM.out _).mono ?_; rintro e w2 ⟨rfl, q2⟩; (have Q2 := Lib.hid q2); clear q2)
        | (at_builtin; go_must (refine wp_appQ rfl (.tmp 16) (.tmp 19) 32 32 rfl w.heap.size 27 i0 (.agg (u8s (List.replicate 32 0)).toArray) 32 32 (by kernel_rfl) HI0.out HZ0.out HZ1.out HZ2.out zeros32_size _ (l.length + k) _ rfl ((HO.out.below Q2.out).alloc _) _ 1 (u8s L) rfl (Src.ofRd (e' := 27) (by kernel_rfl) (rdn_newH (xs := u8s L)) (by rw [u8s_len, HML.out]) (by decide) (u8s_one1 _)) (by unfold maxLen; omega) (by omega) (Nat.le_trans HB.out.size (Nat.le_trans Q2.out.size (by simp))) ?_); intro v2 w3 h1 h2 h3; (have hb2 := below_app ((HB.out.trans (Q2.out.mono HB.out.size)).alloc (Nat.le_trans HB.out.size Q2.out.size) _) ((HO.out.below Q2.out).alloc _) h2); (have H1 := Lib.hid h1); (have HB2 := Lib.hid hb2); clear h1 h2 h3 hb2))
      refine ⟨⟨k + 1, by omega, by go_num, by rw [HST.out]; exact H1.out, HB2.out⟩, ?_⟩
      simp [intOf]; omega
    · obtain rfl : k = 12 := by omega
      have hlen := HO.out.lenCapG
      obtain ⟨g, off, rfl⟩ := HO.out.some_ofG (by omega)
      go_wp2
      go_ret
      obtain ⟨r1, r2, r3, r4, r5⟩ := HO.out.lentH
      exact ⟨_, rfl, ⟨⟨g, off, c3, rfl, r1, r2, r3, r4, r5⟩, HV.out.len, HV.out.lt⟩, HB.out⟩
end Go.Proofs.Ytjpimfbkdighfaa
