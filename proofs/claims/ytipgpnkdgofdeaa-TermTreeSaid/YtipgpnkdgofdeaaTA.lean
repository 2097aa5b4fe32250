import Derived.Test.YtipgpnkdgofdeaaT
/-! Trees of nodes: how they are read from a row, how a branch lies in memory. -/
namespace Go.Proofs.Ytipgpnkdgofdeaa.Tm
open Go.RowKit
set_option linter.unusedVariables false
set_option linter.unusedSimpArgs false

/-- A node: its kind, its number, its real, its bytes, how many kids. -/
structure Nd where
  f0 : Int
  f1 : Int
  f2 : Int
  f3 : ByteArray
  f4 : Int
/-- A node's cells. -/
def ndc (n : Nd) : List Value := [.int .i64 n.f0, .int .i64 n.f1, .int .u64 n.f2, .string n.f3, .int .i64 n.f4]
def ndcs (l : List Nd) : List Value := l.flatMap ndc
theorem ndc_len (n : Nd) : (ndc n).length = 5 := rfl
theorem ndcs_nil : ndcs [] = [] := rfl
theorem ndcs_cons (n : Nd) (l : List Nd) : ndcs (n :: l) = ndc n ++ ndcs l := rfl
theorem ndcs_app (a b : List Nd) : ndcs (a ++ b) = ndcs a ++ ndcs b := by simp [ndcs]
theorem ndcs_len (l : List Nd) : (ndcs l).length = l.length * 5 := by
  induction l with
  | nil => rfl
  | cons n l ih => rw [ndcs_cons, List.length_append, ih, ndc_len, List.length_cons]; omega
theorem ndc_one (n : Nd) : ∀ u ∈ ndc n, u.oneCell' = true := by
  intro u hu
  simp only [ndc, List.mem_cons, List.not_mem_nil, or_false] at hu
  rcases hu with rfl | rfl | rfl | rfl | rfl <;> rfl
theorem ndcs_one (l : List Nd) : ∀ u ∈ ndcs l, u.oneCell' = true := by
  intro u hu
  obtain ⟨n, _, h⟩ := List.mem_flatMap.1 hu
  exact ndc_one n u h
theorem ndcs_get (l : List Nd) : ∀ (i : Nat) (n : Nd), l[i]? = some n → ∀ j u, (ndc n)[j]? = some u → (ndcs l)[i * 5 + j]? = some u := by
  induction l with
  | nil => intro i n h; cases h
  | cons m l ih =>
    intro i n h j u hu
    have hj : j < 5 := by have := (List.getElem?_eq_some_iff.1 hu).1; simpa [ndc] using this
    rw [ndcs_cons]
    cases i with
    | zero =>
      obtain rfl : m = n := by simpa using h
      rw [List.getElem?_append_left (by rw [ndc_len]; omega)]; simpa using hu
    | succ i =>
      rw [List.getElem?_append_right (by rw [ndc_len]; omega), ndc_len]
      rw [show (i + 1) * 5 + j - 5 = i * 5 + j from by omega]
      exact ih i n (by simpa using h) j u hu

/-- A tree of nodes. -/
inductive Tr where
  | mk : Nd → List Tr → Tr
def Tr.nd : Tr → Nd | .mk n _ => n
def Tr.kids : Tr → List Tr | .mk _ ks => ks
mutual
def Tr.flat : Tr → List Nd
  | .mk n ks => n :: flats ks
def flats : List Tr → List Nd
  | [] => []
  | k :: r => k.flat ++ flats r
end
theorem flats_app (a b : List Tr) : flats (a ++ b) = flats a ++ flats b := by
  induction a with
  | nil => simp [flats]
  | cons t a ih => simp [flats, ih]
theorem flat_ne (t : Tr) : t.flat ≠ [] := by cases t; simp [Tr.flat]
theorem flat_pos (t : Tr) : 0 < t.flat.length := List.length_pos_iff.2 (flat_ne t)
theorem flats_mem {k : Tr} {ks : List Tr} (h : k ∈ ks) : k.flat.length ≤ (flats ks).length := by
  induction ks with
  | nil => cases h
  | cons t ks ih =>
    simp only [flats, List.length_append]
    rcases List.mem_cons.1 h with rfl | h
    · omega
    · have := ih h; omega
theorem flats_len (ks : List Tr) : ks.length ≤ (flats ks).length := by
  induction ks with
  | nil => simp [flats]
  | cons t ks ih => simp only [flats, List.length_append, List.length_cons]; have := flat_pos t; omega
theorem kid_lt {n : Nd} {ks : List Tr} {k : Tr} (h : k ∈ ks) : k.flat.length < (Tr.mk n ks).flat.length := by
  have := flats_mem h
  simp only [Tr.flat, List.length_cons]; omega

/-- So many, one behind the other. -/
def parsBy (p : List Nd → Option (Tr × List Nd)) : Nat → List Nd → Option (List Tr × List Nd)
  | 0, l => some ([], l)
  | k + 1, l => (p l).bind fun x => (parsBy p k x.2).map fun y => (x.1 :: y.1, y.2)
/-- A tree that a row begins with, and what stands behind it. -/
def par : Nat → List Nd → Option (Tr × List Nd)
  | 0, _ => none
  | _ + 1, [] => none
  | f + 1, n :: r => if 0 ≤ n.f4 ∧ n.f4 ≤ r.length then (parsBy (par f) n.f4.toNat r).map fun x => (.mk n x.1, x.2) else none

theorem parsBy_flat {p : List Nd → Option (Tr × List Nd)} (hp : ∀ l t r, p l = some (t, r) → l = t.flat ++ r) : ∀ (k : Nat) (l : List Nd) (ks : List Tr) (r : List Nd), parsBy p k l = some (ks, r) → l = flats ks ++ r ∧ ks.length = k
  | 0, l, ks, r, h => by
    obtain ⟨rfl, rfl⟩ := Prod.mk.inj (Option.some.inj h)
    exact ⟨rfl, rfl⟩
  | k + 1, l, ks, r, h => by
    obtain ⟨⟨t, r1⟩, h1, h2⟩ := Option.bind_eq_some_iff.1 h
    obtain ⟨⟨ks', r'⟩, h3, h4⟩ := Option.map_eq_some_iff.1 h2
    obtain ⟨rfl, rfl⟩ := Prod.mk.inj h4
    obtain ⟨e, hk⟩ := parsBy_flat hp k r1 ks' r' h3
    refine ⟨?_, by simp [hk]⟩
    rw [hp _ _ _ h1, e, flats, List.append_assoc]
theorem par_flat : ∀ (f : Nat) (l : List Nd) (t : Tr) (r : List Nd), par f l = some (t, r) → l = t.flat ++ r
  | 0, _, _, _, h => by cases h
  | _ + 1, [], _, _, h => by cases h
  | f + 1, n :: l, t, r, h => by
    rw [par] at h
    split at h
    · obtain ⟨⟨ks, r'⟩, h1, h2⟩ := Option.map_eq_some_iff.1 h
      obtain ⟨rfl, rfl⟩ := Prod.mk.inj h2
      rw [(parsBy_flat (par_flat f) _ _ _ _ h1).1]; rfl
    · cases h
theorem par_rest {f : Nat} {l : List Nd} {t : Tr} {r : List Nd} (h : par f l = some (t, r)) : r.length < l.length := by
  rw [par_flat f l t r h, List.length_append]; have := flat_pos t; omega
theorem parsBy_step (p : List Nd → Option (Tr × List Nd)) (i : Nat) : ∀ (K : Nat) (l : List Nd) (ks : List Tr) (r : List Nd), parsBy p i l = some (ks, r) → i < K →
    parsBy p K l = (p r).bind fun x => (parsBy p (K - i - 1) x.2).map fun y => (ks ++ x.1 :: y.1, y.2) := by
  induction i with
  | zero =>
    intro K l ks r h hK
    obtain ⟨rfl, rfl⟩ := Prod.mk.inj (Option.some.inj h)
    obtain ⟨K, rfl⟩ : ∃ m, K = m + 1 := ⟨K - 1, by omega⟩
    simp [parsBy]
  | succ i ih =>
    intro K l ks r h hK
    obtain ⟨K, rfl⟩ : ∃ m, K = m + 1 := ⟨K - 1, by omega⟩
    obtain ⟨⟨t, r1⟩, h1, h2⟩ := Option.bind_eq_some_iff.1 h
    obtain ⟨⟨ks', r'⟩, h3, h4⟩ := Option.map_eq_some_iff.1 h2
    obtain ⟨rfl, rfl⟩ := Prod.mk.inj h4
    have := ih K r1 ks' r' h3 (by omega)
    rw [parsBy, h1, Option.bind_some]
    show Option.map _ (parsBy p K r1) = _
    rw [this, show K + 1 - (i + 1) - 1 = K - i - 1 from by omega]
    cases p r' with
    | none => rfl
    | some x => simp [Function.comp_def]
theorem parsBy_next {p : List Nd → Option (Tr × List Nd)} {i : Nat} {l : List Nd} {ks : List Tr} {r r' : List Nd} {t : Tr} (h : parsBy p i l = some (ks, r)) (h1 : p r = some (t, r')) : parsBy p (i + 1) l = some (ks ++ [t], r') := by
  rw [parsBy_step p i (i + 1) l ks r h (by omega), h1, show i + 1 - i - 1 = 0 from by omega]; rfl
theorem parsBy_none {p : List Nd → Option (Tr × List Nd)} {i K : Nat} {l : List Nd} {ks : List Tr} {r : List Nd} (h : parsBy p i l = some (ks, r)) (hK : i < K) (h1 : p r = none) : parsBy p K l = none := by
  rw [parsBy_step p i K l ks r h hK, h1]; rfl

/-- More rounds tell the same. -/
theorem parsBy_le {p q : List Nd → Option (Tr × List Nd)} (B : Nat) (hpq : ∀ l, l.length ≤ B → p l = q l) (hp : ∀ l t r, p l = some (t, r) → r.length ≤ l.length) : ∀ (k : Nat) (l : List Nd), l.length ≤ B → parsBy p k l = parsBy q k l
  | 0, _, _ => rfl
  | k + 1, l, hl => by
    rw [parsBy, parsBy, ← hpq l hl]
    cases h : p l with
    | none => rfl
    | some x =>
      rw [Option.bind_some, Option.bind_some, parsBy_le B hpq hp k x.2 (by have := hp l x.1 x.2 h; omega)]
theorem par_more (f : Nat) : ∀ (g : Nat) (l : List Nd), l.length ≤ f → f ≤ g → par f l = par g l := by
  induction f with
  | zero =>
    intro g l hl _
    obtain rfl : l = [] := List.length_eq_zero_iff.1 (by omega)
    cases g <;> rfl
  | succ f ih =>
    intro g l hl hg
    obtain ⟨g, rfl⟩ : ∃ m, g = m + 1 := ⟨g - 1, by omega⟩
    cases l with
    | nil => rfl
    | cons n r =>
      rw [par, par]
      have hr : r.length ≤ f := by simpa using hl
      rw [parsBy_le f (fun l h => ih g l h (by omega)) (fun l t r h => Nat.le_of_lt (par_rest h)) _ r hr]

/-! ### a branch in memory -/
/-- A row that is read, and the blocks that it lies in. -/
def Lies (w : World) (ok : Nat → Prop) (v : Value) (l : List Nd) : Prop :=
  ∃ A c, v = .slice A l.length c ∧ l.length ≤ c ∧ (l ≠ [] → ∃ b off, A = some ⟨b, off, none⟩ ∧ ok b ∧ ∀ j u, (ndcs l)[j]? = some u → w.cell? ⟨b, off + j, none⟩ = some u)
theorem Lies.rd {w : World} {ok : Nat → Prop} {v : Value} {l : List Nd} (h : Lies w ok v l) : Rd w v l.length (ndcs l) := by
  obtain ⟨A, c, rfl, hc, h⟩ := h
  refine ⟨A, c, rfl, hc, ?_⟩
  by_cases h0 : l = []
  · left; rw [h0]; rfl
  · obtain ⟨b, off, rfl, _, hx⟩ := h h0
    exact .inr ⟨b, off, rfl, hx⟩
theorem Lies.mono {w : World} {ok ok' : Nat → Prop} {v : Value} {l : List Nd} (h : Lies w ok v l) (hk : ∀ k, ok k → ok' k) : Lies w ok' v l := by
  obtain ⟨A, c, rfl, hc, h⟩ := h
  refine ⟨A, c, rfl, hc, fun h0 => ?_⟩
  obtain ⟨b, off, rfl, hb, hx⟩ := h h0
  exact ⟨b, off, rfl, hk b hb, hx⟩
theorem Lies.move {w w' : World} {ok : Nat → Prop} {v : Value} {l : List Nd} (h : Lies w ok v l) (hm : ∀ k, k < w.heap.size → ok k → w'.heap[k]? = w.heap[k]?) : Lies w' ok v l := by
  obtain ⟨A, c, rfl, hc, h⟩ := h
  refine ⟨A, c, rfl, hc, fun h0 => ?_⟩
  obtain ⟨b, off, rfl, hb, hx⟩ := h h0
  refine ⟨b, off, rfl, hb, fun j u hu => ?_⟩
  have := hx j u hu
  exact (World.cell?_of_block (w := w) (hm b (blk_of_cell this) hb)).trans this
theorem Lies.bound {w : World} {ok : Nat → Prop} {v : Value} {l : List Nd} (h : Lies w ok v l) : Lies w (fun k => ok k ∧ k < w.heap.size) v l := by
  obtain ⟨A, c, rfl, hc, h⟩ := h
  refine ⟨A, c, rfl, hc, fun h0 => ?_⟩
  obtain ⟨b, off, rfl, hb, hx⟩ := h h0
  refine ⟨b, off, rfl, ⟨hb, ?_⟩, hx⟩
  obtain ⟨u, hu⟩ : ∃ u, (ndcs l)[0]? = some u := by
    cases l with
    | nil => exact absurd rfl h0
    | cons n l => exact ⟨_, rfl⟩
  exact blk_of_cell (hx 0 u hu)
theorem Lies.qt {w w' : World} {ok : Nat → Prop} {v : Value} {l : List Nd} (h : Lies w ok v l) (q : Qt w w') : Lies w' ok v l := h.move fun k hk _ => q.block k hk
theorem Lies.ofRd {w : World} {v : Value} {l : List Nd} (h : Rd w v l.length (ndcs l)) : Lies w (fun k => k < w.heap.size) v l := by
  obtain ⟨A, c, rfl, hc, h⟩ := h
  refine ⟨A, c, rfl, hc, fun h0 => ?_⟩
  rcases h with h | ⟨b, off, rfl, hx⟩
  · cases l with
    | nil => exact absurd rfl h0
    | cons n l => simp [ndcs_cons, ndc] at h
  · obtain ⟨u, hu⟩ : ∃ u, (ndcs l)[0]? = some u := by
      cases l with
      | nil => exact absurd rfl h0
      | cons n l => exact ⟨_, rfl⟩
    exact ⟨b, off, rfl, blk_of_cell (hx 0 u hu), hx⟩

inductive Br (w : World) (ok : Nat → Prop) : List Value → Tr → Prop where
  | mk (n : Nd) (ks : List Tr) (A : Option Addr) (c : Nat) (av : Value) (cf : Nat → List Value) (hc : ks.length ≤ c)
      (hA : ks ≠ [] → ∃ b off, A = some ⟨b, off, none⟩ ∧ ok b ∧ ∀ i k, ks[i]? = some k → ∀ j u, (cf i)[j]? = some u → w.cell? ⟨b, off + (i * 7 + j), none⟩ = some u)
      (hb : ∀ i k, ks[i]? = some k → Br w ok (cf i) k)
      (ha : Lies w ok av (Tr.mk n ks).flat) : Br w ok (ndc n ++ [.slice A ks.length c, av]) (.mk n ks)
theorem Br.len {w : World} {ok : Nat → Prop} {cs : List Value} {t : Tr} (h : Br w ok cs t) : cs.length = 7 := by cases h; rfl
theorem Br.mono {w : World} {ok ok' : Nat → Prop} {cs : List Value} {t : Tr} (h : Br w ok cs t) (hk : ∀ k, ok k → ok' k) : Br w ok' cs t := by
  induction h with
  | mk n ks A c av cf hc hA hb ha ih =>
    refine .mk n ks A c av cf hc (fun h0 => ?_) ih (ha.mono hk)
    obtain ⟨b, off, rfl, hb', hx⟩ := hA h0
    exact ⟨b, off, rfl, hk b hb', hx⟩
theorem Br.move {w w' : World} {ok : Nat → Prop} {cs : List Value} {t : Tr} (h : Br w ok cs t) (hm : ∀ k, k < w.heap.size → ok k → w'.heap[k]? = w.heap[k]?) : Br w' ok cs t := by
  induction h with
  | mk n ks A c av cf hc hA hb ha ih =>
    refine .mk n ks A c av cf hc (fun h0 => ?_) ih (ha.move hm)
    obtain ⟨b, off, rfl, hb', hx⟩ := hA h0
    refine ⟨b, off, rfl, hb', fun i k hk j u hu => ?_⟩
    have := hx i k hk j u hu
    exact (World.cell?_of_block (w := w) (hm b (blk_of_cell this) hb')).trans this
theorem Br.bound {w : World} {ok : Nat → Prop} {cs : List Value} {t : Tr} (h : Br w ok cs t) : Br w (fun k => ok k ∧ k < w.heap.size) cs t := by
  induction h with
  | mk n ks A c av cf hc hA hb ha ih =>
    refine .mk n ks A c av cf hc (fun h0 => ?_) ih ha.bound
    obtain ⟨b, off, rfl, hb', hx⟩ := hA h0
    obtain ⟨k, hk⟩ : ∃ k, ks[0]? = some k := by
      cases ks with
      | nil => exact absurd rfl h0
      | cons k ks => exact ⟨k, rfl⟩
    obtain ⟨u, hu⟩ : ∃ u, (cf 0)[0]? = some u := ⟨_, List.getElem?_eq_getElem (by have := (hb 0 k hk).len; omega)⟩
    exact ⟨b, off, rfl, ⟨hb', blk_of_cell (hx 0 k hk 0 u hu)⟩, hx⟩
theorem Br.qt {w w' : World} {ok : Nat → Prop} {cs : List Value} {t : Tr} (h : Br w ok cs t) (q : Qt w w') : Br w' ok cs t := h.move fun k hk _ => q.block k hk
/-- The cells of a branch, and of each of its kids. -/
theorem Br.open' {w : World} {ok : Nat → Prop} {cs : List Value} {n : Nd} {ks : List Tr} (h : Br w ok cs (.mk n ks)) :
    ∃ (A : Option Addr) (c : Nat) (av : Value) (cf : Nat → List Value), cs = ndc n ++ [.slice A ks.length c, av] ∧ ks.length ≤ c ∧
      (ks ≠ [] → ∃ b off, A = some ⟨b, off, none⟩ ∧ ok b ∧ ∀ i k, ks[i]? = some k → ∀ j u, (cf i)[j]? = some u → w.cell? ⟨b, off + (i * 7 + j), none⟩ = some u) ∧
      (∀ i k, ks[i]? = some k → Br w ok (cf i) k) ∧ Lies w ok av (Tr.mk n ks).flat := by
  cases h with
  | mk n ks A c av cf hc hA hb ha => exact ⟨A, c, av, cf, rfl, hc, hA, hb, ha⟩
theorem Br.one {w : World} {ok : Nat → Prop} {cs : List Value} {t : Tr} (h : Br w ok cs t) : ∀ u ∈ cs, u.oneCell' = true := by
  cases h with
  | mk n ks A c av cf hc hA hb ha =>
    intro u hu
    rcases List.mem_append.1 hu with h | h
    · exact ndc_one n u h
    · obtain ⟨A', c', rfl, _⟩ := ha
      simp only [List.mem_cons, List.not_mem_nil, or_false] at h
      rcases h with rfl | rfl <;> rfl
/-- What is thrown. -/
def tnone : PanicEntry := { v := .iface 82 (.agg #[]), recovered := false }
end Go.Proofs.Ytipgpnkdgofdeaa.Tm
