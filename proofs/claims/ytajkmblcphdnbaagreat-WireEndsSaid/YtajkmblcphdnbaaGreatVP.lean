import Derived.Test.YtajkmblcphdnbaaGreatVN
import Derived.Test.YtajkmblcphdnbaaGreatVO
/-! A row of calls that is read; great. -/
namespace Go.Proofs.YtajkmblcphdnbaaGreat
open Go.RowKit
set_option linter.unusedVariables false
set_option linter.unusedSimpArgs false

/-- A row of calls. -/
def Puts (w : World) (v : Value) (l : List (PutD × Value)) : Prop :=
  ∃ a c, v = .slice a l.length c ∧ l.length ≤ c ∧ (c ≤ 9223372036854775807 ∧ l.length ≤ 140737488351232) ∧ (∀ x ∈ l, x.1.Ok ∧ Rd w x.2 x.1.b.length (u8s x.1.b)) ∧
    (l = [] ∨ ∃ b off, a = some ⟨b, off, none⟩ ∧ ∀ (j : Nat) (x : PutD × Value), l[j]? = some x → w.rangeAt b (off + j * 37) (putC x.1 x.2))
theorem rangeAt_qt {w w' : World} {b o : Nat} {cs : List Value} (h : w.rangeAt b o cs) (q : Qt w w') : w'.rangeAt b o cs := fun j v hv => by
  have h1 := h j v hv
  exact (q.cell (p := ⟨b, o + j, none⟩) (blk_of_cell h1)).trans h1
theorem Puts.qt {w w' : World} {v : Value} {l : List (PutD × Value)} (h : Puts w v l) (q : Qt w w') : Puts w' v l := by
  obtain ⟨a, c, h1, h2, h3, h4, h5⟩ := h
  refine ⟨a, c, h1, h2, h3, fun x hx => ⟨(h4 x hx).1, (h4 x hx).2.below q⟩, ?_⟩
  rcases h5 with h5 | ⟨b, off, e, h5⟩
  · exact .inl h5
  · exact .inr ⟨b, off, e, fun j x hx => rangeAt_qt (h5 j x hx) q⟩
theorem Puts.at {w : World} {a : Option Addr} {n c : Nat} {l : List (PutD × Value)} (h : Puts w (.slice a n c) l) {j : Nat} {x : PutD × Value} (hj : l[j]? = some x) : ∃ b off, a = some ⟨b, off, none⟩ ∧ w.rangeAt b (off + j * 37) (putC x.1 x.2) ∧ x.1.Ok ∧ Rd w x.2 x.1.b.length (u8s x.1.b) := by
  obtain ⟨a', c', hv, _, _, h4, h5⟩ := h
  rcases h5 with rfl | ⟨b, off, rfl, h5⟩
  · simp at hj
  · cases hv
    exact ⟨b, off, rfl, h5 j x hj, (h4 x (List.mem_of_getElem? hj)).1, (h4 x (List.mem_of_getElem? hj)).2⟩

/-- Are calls more than is gone through? -/
def greatL : List (PutD × Value) → Nat → Bool
  | [], n => decide (300 < n)
  | x :: r, n => if n ≤ 300 then (if 300 < x.1.s.length ∧ x.1.s.length < 65536 then true else greatL r (n + x.1.b.length)) else true
theorem greatL_big (l : List (PutD × Value)) (n : Nat) (h : 300 < n) : greatL l n = true := by
  cases l with
  | nil => simpa [greatL] using h
  | cons x r => rw [greatL, if_neg (by omega)]
theorem greatL_no {l : List (PutD × Value)} {n : Nat} (h : greatL l n = false) : n + (l.map fun x => x.1.b.length).sum ≤ 300 ∧ ∀ x ∈ l, x.1.s.length ≤ 300 ∨ 65536 ≤ x.1.s.length := by
  induction l generalizing n with
  | nil => simp [greatL] at h; exact ⟨by simpa using h, fun x hx => by cases hx⟩
  | cons x r ih =>
    rw [greatL] at h
    by_cases hn : n ≤ 300
    · rw [if_pos hn] at h
      by_cases hs : 300 < x.1.s.length ∧ x.1.s.length < 65536
      · rw [if_pos hs] at h; cases h
      · rw [if_neg hs] at h
        obtain ⟨h1, h2⟩ := ih h
        refine ⟨by simp only [List.map_cons, List.sum_cons]; omega, fun y hy => ?_⟩
        rcases List.mem_cons.1 hy with rfl | hy
        · omega
        · exact h2 y hy
    · rw [if_neg hn] at h; cases h

set_option maxRecDepth 10000000 in
set_option maxHeartbeats 1000000 in
theorem great_any (v : Value) (l : List (PutD × Value)) (ba : Option Addr) (bn bc : Nat) (w : World) (hv : Puts w v l) (hb : bn ≤ 140737488355328) :
    Calls Tryz.prog 7 #[v, .slice ba bn bc] w fun e w' => e = .returned (.bool (greatL l (l.length + bn))) ∧ w = w' := by
  have HV := Lib.hid hv
  obtain ⟨a, c, rfl, hc, hm, _⟩ := hv
  have hm1 := hm.1
  have hm2 := hm.2
  clear hm
  go_enter Tryz.func7, Tryz.ntmps7
  go_wp2
  go_loop [5, 6] (fun n i => ∃ k m : Nat, k ≤ l.length ∧ m ≤ 281474976710700 ∧ i = .int .i64 k ∧ n = .int .i64 m ∧ Hid (greatL (l.drop k) m = greatL l (l.length + bn))) (fun _ i => l.length - (intOf i).toNat)
  case atStart => exact ⟨0, l.length + bn, by omega, by omega, rfl, by go_num, Lib.hid rfl⟩
  case round =>
    obtain ⟨k, m, hk, hm, rfl, rfl, HG⟩ := hrel
    by_cases hlt : k < l.length
    · by_cases hm3 : m ≤ 300
      · obtain ⟨x, hx⟩ : ∃ x, l[k]? = some x := ⟨_, List.getElem?_eq_getElem hlt⟩
        have hdrop : l.drop k = x :: l.drop (k + 1) := by
          rw [List.drop_eq_getElem_cons hlt]
          congr 1
          exact Option.some.inj ((List.getElem?_eq_getElem hlt).symm.trans hx)
        obtain ⟨b, off, rfl, hr, hok, hrd⟩ := HV.out.at hx
        obtain ⟨xa, xc, hxs, hxn, _⟩ := hrd
        have hg := HG.out
        rw [hdrop, greatL, if_pos hm3] at hg
        have c4 : w.cell? ⟨b, off + k * 37 + 35, none⟩ = some (.slice xa x.1.b.length xc) := hr 35 _ ((putC_35 _ _ hok.h32).trans (by rw [hxs]))
        have c5 : w.cell? ⟨b, off + k * 37 + 36, none⟩ = some (.string (str x.1.s)) := hr 36 _ (putC_36 _ _ hok.h32)
        have hbl := hok.bl
        have hsl := hok.sl
        have hss : (str x.1.s).size = x.1.s.length := str_size _
        have HGG := Lib.hid hg
        clear hx hdrop hr hok hxs hg HG
        generalize hS : str x.1.s = S at *
        have HSS := Lib.hid hS
        have hsz : S.size ≤ 140737488351232 := by omega
        have HZ := Lib.hid hss
        clear hS hss hsl
        generalize hB : x.1.b.length = bl at *
        have HBL := Lib.hid hB
        clear hB
        have hsum : IntKind.i64.wrap ((m : Int) + (bl : Int)) = (m : Int) + bl := IntWalk.i64_in _ (by omega)
        have hcase : (300 < x.1.s.length ∧ x.1.s.length < 65536) ↔ (300 < S.size ∧ S.size < 65536) := by rw [HZ.out]
        have HCS := Lib.hid hcase
        clear hcase
        by_cases hs1 : 300 < S.size
        · by_cases hs2 : S.size < 65536
          · have hg := HGG.out
            rw [if_pos (HCS.out.2 ⟨hs1, hs2⟩)] at hg
            have HG2 := Lib.hid hg
            clear hg HGG
            go_wp2
            go_ret
            exact ⟨by rw [← HG2.out]; rfl, rfl⟩
          · have hg := HGG.out
            rw [if_neg (fun h => hs2 (HCS.out.1 h).2)] at hg
            have HG2 := Lib.hid hg
            clear hg HGG
            go_wp2
            go_round
            case rel => exact ⟨k + 1, m + bl, by omega, by omega, by go_num, by go_num, HG2⟩
            case measure => simp [intOf]; omega
        · have hg := HGG.out
          rw [if_neg (fun h => hs1 (HCS.out.1 h).1)] at hg
          have HG2 := Lib.hid hg
          clear hg HGG
          go_wp2
          go_round
          case rel => exact ⟨k + 1, m + bl, by omega, by omega, by go_num, by go_num, HG2⟩
          case measure => simp [intOf]; omega
      · have hg := HG.out
        rw [greatL_big _ _ (by omega)] at hg
        have HG2 := Lib.hid hg
        clear hg HG
        go_wp2
        go_ret
        exact ⟨by rw [← HG2.out]; simp <;> omega, rfl⟩
    · obtain rfl : k = l.length := by omega
      have hg := HG.out
      rw [List.drop_length, greatL] at hg
      have HG2 := Lib.hid hg
      clear hg HG
      by_cases hm3 : m ≤ 300
      all_goals
        go_wp2
        go_ret
        exact ⟨by rw [← HG2.out]; simp <;> omega, rfl⟩
end Go.Proofs.YtajkmblcphdnbaaGreat
