import Derived.Test.YtjpimfbkdighfaaK
import Derived.Test.YtjpimfbkdighfaaD
import Derived.Deep.Matrix
import Derived.SizedLaws
/-! What comes in, read. -/
namespace Go.Proofs.Ytjpimfbkdighfaa
open Go.RowKit Go.Deep Go.ChangeShapes Go.WideShapes

theorem addr_plain {w : World} {a : Addr} {v : Value} (h : w.cell? (a.add 0) = some v) : ∃ b off, a = ⟨b, off, none⟩ := by
  obtain ⟨b, off, sp⟩ := a
  cases sp with
  | none => exact ⟨b, off, rfl⟩
  | some s =>
    exfalso
    rw [show (⟨b, off, some s⟩ : Addr).add 0 = ⟨b, off, some s⟩ from rfl] at h
    unfold World.cell? at h
    split at h
    · simp at h
    · cases h

theorem wf_u8' {n : Int} (h : (Lit.int .u8 n).wf = true) : ∃ m : Nat, n = m ∧ m < 256 := by
  simp [Lit.wf, IntKind.min, IntKind.max, IntKind.signed, IntKind.bits] at h
  exact ⟨n.toNat, by omega, by omega⟩

/-- Bytes out of whole numbers. -/
theorem bytes_of {zs : List Int} (h : ∀ n ∈ zs, (Lit.int .u8 n).wf = true) : ∃ xs : List Nat, zs = xs.map (fun (x : Nat) => (x : Int)) ∧ xs.length = zs.length ∧ ∀ x ∈ xs, x < 256 := by
  refine ⟨zs.map Int.toNat, ?_, by simp, fun x hx => ?_⟩
  · rw [List.map_map]
    conv => lhs; rw [← List.map_id zs]
    apply List.map_congr_left
    intro n hn
    obtain ⟨m, rfl, _⟩ := wf_u8' (h n hn)
    rfl
  · obtain ⟨n, hn, rfl⟩ := List.mem_map.1 hx
    obtain ⟨m, rfl, hm⟩ := wf_u8' (h n hn)
    exact hm

section
variable {H : Type} {enc : TypeId × Value → H} {P : Program} {w : World} {held : Bool}

theorem weights_in {ds : List (DataW H)} {e q : TypeId} (he : P.underlying e = some (.slice q)) {d : DataW H} (hd : d ∈ ds) {el sp : List (DataW H)} (hx : d = .slice el sp) : (el.length + sp.length) * P.bytesOf q ∈ DataW.weightsAll P e ds := by
  induction ds with
  | nil => cases hd
  | cons a r ih =>
    unfold DataW.weightsAll
    rw [List.mem_append]
    rcases List.mem_cons.1 hd with rfl | h
    · left
      subst hx
      simp [DataW.weights, he]
    · exact .inr (ih h)

theorem open_parts {t e q : TypeId} {ts : List TypeId} {ds : List (DataW H)} {j : Nat} {v : Value} {d : DataW H} {ps : List MemPlace} (ht : P.underlying t = some (.slice e)) (he : P.underlying e = some (.slice q)) (hq : P.underlying q = some (.int .u8))
    (ce : P.cellsOf e = 1) (cq : P.cellsOf q = 1) (bq : P.bytesOf q = 1) (be : P.bytesOf e = 24)
    (hsz : (DataW.weightsEach P ts ds).all (· ≤ reachBytes) = true) (htj : ts[j]? = some t) (hdj : ds[j]? = some d)
    (hv : ∃ a n c, v = .slice a n c) (h : DataW.Trod enc P w 0 (fun _ => true) held t v d ps) :
    ∃ xss : List (List Nat), Parts w v xss ∧ (∀ x ∈ xss, x.length ≤ 140737488351232) ∧ xss.length ≤ 5864062014634 := by
  obtain ⟨a0, n0, c0, rfl⟩ := hv
  obtain ⟨fuel, hf⟩ := h
  rcases open_int_rows ht he hq ce cq hf with ⟨hcs, _⟩ | ⟨a, len, cap, A, L, C, Z, hcs, _, hl, hm, hx, hr⟩
  · simp [Value.cells] at hcs
    obtain ⟨rfl, rfl, rfl⟩ := hcs
    exact ⟨[], ⟨⟨[], ⟨none, 0, rfl, Nat.le_refl _, .inl rfl⟩, rfl, fun j x hx => by simp at hx⟩, (fun x hx => by cases hx)⟩, (fun x hx => by cases hx), Nat.zero_le _⟩
  · simp [Value.cells] at hcs
    obtain ⟨rfl, rfl, rfl⟩ := hcs
    obtain ⟨hx, _⟩ := Prod.mk.inj hx
    subst hx
    have hb : ∀ r, r < n0 → ∃ xs : List Nat, (Z r).take (L r) = xs.map (fun (x : Nat) => (x : Int)) ∧ xs.length = L r ∧ ∀ x ∈ xs, x < 256 := fun r hr' => by
      obtain ⟨_, h2, _, h4, h5, _⟩ := hr r (by omega)
      obtain ⟨xs, e1, e2, e3⟩ := bytes_of (zs := (Z r).take (L r)) (fun n hn => h5 n (List.mem_of_mem_take hn))
      exact ⟨xs, e1, by rw [e2, List.length_take, h4]; omega, e3⟩
    obtain ⟨X, hX⟩ := choose_lt hb
    have hl2 := sized_slice hsz htj hdj ht
    rw [be] at hl2
    have hreach : reachBytes = 140737488351232 := by decide
    refine ⟨(List.range n0).map X, ⟨⟨(List.range n0).map fun r => .slice (A r) (L r) (C r), ⟨some a, c0, by simp, by simpa using hl, ?_⟩, by simp, fun i x hi => ?_⟩, fun x hx => ?_⟩, fun x hx => ?_, ?_⟩
    · by_cases h0 : n0 = 0
      · left; subst h0; rfl
      · right
        obtain ⟨b, off, rfl⟩ := addr_plain (hr 0 (by omega)).1
        refine ⟨b, off, rfl, fun i u hu => ?_⟩
        have hi : i < n0 := by
          rcases Nat.lt_or_ge i n0 with h | h
          · exact h
          · rw [List.getElem?_eq_none (by simpa using h)] at hu; cases hu
        rw [← add_plain, (hr i (by omega)).1]
        rw [List.getElem?_map, List.getElem?_range hi] at hu
        exact hu
    · have hi' : i < n0 := by
        rcases Nat.lt_or_ge i n0 with h | h
        · exact h
        · rw [List.getElem?_eq_none (by simpa using h)] at hi; cases hi
      rw [List.getElem?_map, List.getElem?_range hi'] at hi
      cases hi
      refine ⟨.slice (A i) (L i) (C i), by rw [List.getElem?_map, List.getElem?_range hi']; rfl, ?_⟩
      obtain ⟨e1, e2, e3⟩ := hX i hi'
      obtain ⟨_, h2, h3, h4, _, h6, h7⟩ := hr i (by omega)
      refine ⟨A i, C i, by rw [e2], by rw [e2]; exact h2, ?_⟩
      by_cases h0 : L i = 0
      · left
        rw [h0] at e2
        rw [List.length_eq_zero_iff.1 e2]; rfl
      · right
        cases hA : A i with
        | none => have := h6 hA; omega
        | some ad =>
          obtain ⟨_, hcell⟩ := h7 ad hA
          obtain ⟨b, off, rfl⟩ := addr_plain (hcell 0 (by omega))
          refine ⟨b, off, rfl, fun k u hu => ?_⟩
          have hk : k < (X i).length := by
            rcases Nat.lt_or_ge k (X i).length with h | h
            · exact h
            · rw [List.getElem?_eq_none (by simpa [u8s] using h)] at hu; cases hu
          rw [← add_plain, hcell k (by omega), ← hu, u8s, List.getElem?_map, List.getElem?_eq_getElem hk]
          have : (Z i).getD k 0 = ((X i)[k] : Int) := by
            have e5 : ((Z i).take (L i))[k]? = some ((X i)[k] : Int) := by rw [e1, List.getElem?_map, List.getElem?_eq_getElem hk]; rfl
            rw [List.getElem?_take, if_pos (by omega)] at e5
            rw [List.getD_eq_getElem?_getD, e5]; rfl
          rw [this]; rfl
    · obtain ⟨r, hr', rfl⟩ := List.mem_map.1 hx
      exact (hX r (by simpa using hr')).2.2
    · obtain ⟨r, hr', rfl⟩ := List.mem_map.1 hx
      have hr2 : r < n0 := by simpa using hr'
      rw [(hX r hr2).2.1]
      obtain ⟨_, h2, _, h4, _⟩ := hr r (by omega)
      have hmem : ((Z r).take (L r)).length + ((Z r).drop (L r)).length ≤ reachBytes ∨ A r = none := by
        cases hA : A r with
        | none => exact .inr rfl
        | some ad =>
          left
          have hin := weights_in (P := P) (ds := (List.range n0).map fun r => intRow (H := H) .u8 (A r) (L r) (Z r)) he (List.mem_map.2 ⟨r, by simpa using hr2, rfl⟩) (el := lits .u8 ((Z r).take (L r))) (sp := lits .u8 ((Z r).drop (L r))) (by rw [hA]; rfl)
          have := List.all_eq_true.1 hsz _ (DataW.weights_mem_each htj hdj _ (by
            simp only [DataW.weights, ht]
            exact List.mem_cons_of_mem _ (List.mem_append_left _ hin)))
          rw [bq] at this
          simpa [lits] using this
      rcases hmem with h | h
      · rw [List.length_take, h4] at h
        rw [hreach] at h
        omega
      · have := (hr r (by omega)).2.2.2.2.2.1 h
        omega
    · rw [hreach] at hl2
      simp at hl2 ⊢
      omega
end
end Go.Proofs.Ytjpimfbkdighfaa
