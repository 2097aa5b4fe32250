import Derived.Test.YtipgpnkdgofdeaaPT
/-! Which of two terms stands ahead: plain laws. -/
namespace Go.Proofs.Ytipgpnkdgofdeaa.Tm
open Go.RowKit Go.Proofs.Ytipgpnkdgofdeaa.Fl
set_option linter.unusedVariables false
set_option linter.unusedSimpArgs false

/-- Of three, by what is told of the first two, the last two, the first and the last. -/
def T3 (c1 c2 c3 : Int) : Prop := (c1 = 0 → c3 = c2) ∧ (c1 < 0 → c2 ≤ 0 → c3 < 0)
/-- Of two, told both ways. -/
def A2 (c d : Int) : Prop := d = -c ∧ -1 ≤ c ∧ c ≤ 1
theorem T3.lex {c1 c2 c3 d1 d2 d3 : Int} (h : T3 c1 c2 c3) (k : T3 d1 d2 d3) : T3 (if c1 = 0 then d1 else c1) (if c2 = 0 then d2 else c2) (if c3 = 0 then d3 else c3) := by
  unfold T3 at *
  repeat' split
  all_goals omega
theorem A2.lex {c c' d d' : Int} (h : A2 c c') (k : A2 d d') : A2 (if c = 0 then d else c) (if c' = 0 then d' else c') := by
  unfold A2 at *
  repeat' split
  all_goals omega
theorem icmp_t3 (a b x : Int) : T3 (icmp a b) (icmp b x) (icmp a x) := by
  unfold T3 icmp
  repeat' split
  all_goals omega
theorem icmp_a2 (a b : Int) : A2 (icmp a b) (icmp b a) := by
  unfold A2 icmp
  repeat' split
  all_goals omega
theorem icmp_zero {a b : Int} : icmp a b = 0 ↔ a = b := by
  unfold icmp
  repeat' split
  all_goals omega
theorem ford_t3 {a b x : Int} (ha : Wd a) (hb : Wd b) (hx : Wd x) : T3 (ford a b) (ford b x) (ford a x) := by
  rw [ford_pl ha hb, ford_pl hb hx, ford_pl ha hx]
  exact icmp_t3 _ _ _
theorem ford_a2 {a b : Int} (ha : Wd a) (hb : Wd b) : A2 (ford a b) (ford b a) := by
  have := ford_bd ha hb
  exact ⟨by omega, this.1, this.2.1⟩
theorem u8_lt (a b : UInt8) : a < b ↔ a.toNat < b.toNat := UInt8.lt_iff_toNat_lt
theorem cb_t3 : ∀ a b x : List UInt8, T3 (Lib.compareBytes a b) (Lib.compareBytes b x) (Lib.compareBytes a x)
  | [], [], x => ⟨fun _ => rfl, fun h => by simp [Lib.compareBytes] at h⟩
  | [], b :: bs, [] => ⟨fun h => by simp [Lib.compareBytes] at h, fun _ h => by simp [Lib.compareBytes] at h⟩
  | [], b :: bs, x :: xs => ⟨fun h => by simp [Lib.compareBytes] at h, fun _ _ => by simp [Lib.compareBytes]⟩
  | a :: ar, [], x => ⟨fun h => by simp [Lib.compareBytes] at h, fun h => by simp [Lib.compareBytes] at h⟩
  | a :: ar, b :: bs, [] => ⟨fun _ => rfl, fun _ h => by simp [Lib.compareBytes] at h⟩
  | a :: ar, b :: bs, x :: xs => by
    have ih := cb_t3 ar bs xs
    simp only [Lib.compareBytes, u8_lt]
    unfold T3 at *
    repeat' split
    all_goals omega
theorem cb_a2 : ∀ a b : List UInt8, A2 (Lib.compareBytes a b) (Lib.compareBytes b a)
  | [], [] => by simp [Lib.compareBytes, A2]
  | [], b :: bs => by simp [Lib.compareBytes, A2]
  | a :: ar, [] => by simp [Lib.compareBytes, A2]
  | a :: ar, b :: bs => by
    have ih := cb_a2 ar bs
    simp only [Lib.compareBytes, u8_lt]
    unfold A2 at *
    repeat' split
    all_goals omega
theorem cb_zero : ∀ a b : List UInt8, Lib.compareBytes a b = 0 → a = b
  | [], [], _ => rfl
  | [], b :: bs, h => by simp [Lib.compareBytes] at h
  | a :: ar, [], h => by simp [Lib.compareBytes] at h
  | a :: ar, b :: bs, h => by
    simp only [Lib.compareBytes, u8_lt] at h
    split at h
    · omega
    · split at h
      · omega
      · rw [cb_zero ar bs h, show a = b from UInt8.toNat_inj.1 (by omega)]
theorem ncmp_lex (x y : Nd) : ncmp x y = if icmp x.f0 y.f0 = 0 then (if icmp x.f1 y.f1 = 0 then (if ford x.f2 y.f2 = 0 then bcmp x.f3 y.f3 else ford x.f2 y.f2) else icmp x.f1 y.f1) else icmp x.f0 y.f0 := by
  unfold ncmp
  simp only [fnz]
  repeat' split
  all_goals first | rfl | omega
theorem ncmp_t3 {a b x : Nd} (ha : Wd a.f2) (hb : Wd b.f2) (hx : Wd x.f2) : T3 (ncmp a b) (ncmp b x) (ncmp a x) := by
  rw [ncmp_lex, ncmp_lex, ncmp_lex]
  exact (icmp_t3 _ _ _).lex ((icmp_t3 _ _ _).lex ((ford_t3 ha hb hx).lex (cb_t3 _ _ _)))
theorem ncmp_a2 {a b : Nd} (ha : Wd a.f2) (hb : Wd b.f2) : A2 (ncmp a b) (ncmp b a) := by
  rw [ncmp_lex, ncmp_lex]
  exact (icmp_a2 _ _).lex ((icmp_a2 _ _).lex ((ford_a2 ha hb).lex (cb_a2 _ _)))
/-- Each real of a tree is a word. -/
def Wf (t : Tr) : Prop := ∀ n ∈ t.flat, Wd n.f2
def Wfs (ks : List Tr) : Prop := ∀ n ∈ flats ks, Wd n.f2
theorem Wf.nd {n : Nd} {ks : List Tr} (h : Wf (.mk n ks)) : Wd n.f2 := h n (by simp [Tr.flat])
theorem Wf.kids {n : Nd} {ks : List Tr} (h : Wf (.mk n ks)) : Wfs ks := fun m hm => h m (by simp [Tr.flat, hm])
theorem Wfs.head {k : Tr} {ks : List Tr} (h : Wfs (k :: ks)) : Wf k := fun m hm => h m (by simp [flats, hm])
theorem Wfs.tail {k : Tr} {ks : List Tr} (h : Wfs (k :: ks)) : Wfs ks := fun m hm => h m (by simp [flats, hm])
mutual
theorem ord_t3 : ∀ t u x : Tr, Wf t → Wf u → Wf x → T3 (ord t u) (ord u x) (ord t x)
  | .mk n ks, .mk m js, .mk p zs, ht, hu, hx => by
    rw [ord, ord, ord]
    exact (ncmp_t3 ht.nd hu.nd hx.nd).lex (ords_t3 ks js zs ht.kids hu.kids hx.kids)
theorem ords_t3 : ∀ ks js zs : List Tr, Wfs ks → Wfs js → Wfs zs → T3 (ords ks js) (ords js zs) (ords ks zs)
  | [], [], z, _, _, _ => ⟨fun _ => rfl, fun h => by simp [ords] at h⟩
  | [], _ :: _, [], _, _, _ => ⟨fun h => by simp [ords] at h, fun _ h => by simp [ords] at h⟩
  | [], _ :: _, _ :: _, _, _, _ => ⟨fun h => by simp [ords] at h, fun _ _ => by simp [ords]⟩
  | _ :: _, [], _, _, _, _ => ⟨fun h => by simp [ords] at h, fun h => by simp [ords] at h⟩
  | _ :: _, _ :: _, [], _, _, _ => ⟨fun _ => rfl, fun _ h => by simp [ords] at h⟩
  | k :: ks, j :: js, z :: zs, hk, hj, hz => by
    rw [ords, ords, ords]
    exact (ord_t3 k j z hk.head hj.head hz.head).lex (ords_t3 ks js zs hk.tail hj.tail hz.tail)
end
mutual
theorem ord_a2 : ∀ t u : Tr, Wf t → Wf u → A2 (ord t u) (ord u t)
  | .mk n ks, .mk m js, ht, hu => by
    rw [ord, ord]
    exact (ncmp_a2 ht.nd hu.nd).lex (ords_a2 ks js ht.kids hu.kids)
theorem ords_a2 : ∀ ks js : List Tr, Wfs ks → Wfs js → A2 (ords ks js) (ords js ks)
  | [], [], _, _ => by simp [ords, A2]
  | [], _ :: _, _, _ => by simp [ords, A2]
  | _ :: _, [], _, _ => by simp [ords, A2]
  | k :: ks, j :: js, hk, hj => by
    rw [ords, ords]
    exact (ord_a2 k j hk.head hj.head).lex (ords_a2 ks js hk.tail hj.tail)
end
theorem ord_self {t : Tr} (h : Wf t) : ord t t = 0 := by
  have := ord_a2 t t h h
  unfold A2 at this
  omega

/-! ### counts of kids -/
mutual
def CW : Tr → Prop
  | .mk n ks => n.f4 = (ks.length : Int) ∧ CWs ks
def CWs : List Tr → Prop
  | [] => True
  | k :: r => CW k ∧ CWs r
end
theorem parsBy_cw {p : List Nd → Option (Tr × List Nd)} (hp : ∀ l t r, p l = some (t, r) → CW t) : ∀ (k : Nat) (l : List Nd) (ks : List Tr) (r : List Nd), parsBy p k l = some (ks, r) → CWs ks
  | 0, l, ks, r, h => by
    obtain ⟨rfl, rfl⟩ := Prod.mk.inj (Option.some.inj h)
    trivial
  | k + 1, l, ks, r, h => by
    obtain ⟨⟨t, r1⟩, h1, h2⟩ := Option.bind_eq_some_iff.1 h
    obtain ⟨⟨ks', r'⟩, h3, h4⟩ := Option.map_eq_some_iff.1 h2
    obtain ⟨rfl, rfl⟩ := Prod.mk.inj h4
    exact ⟨hp _ _ _ h1, parsBy_cw hp k r1 ks' r' h3⟩
theorem par_cw : ∀ (f : Nat) (l : List Nd) (t : Tr) (r : List Nd), par f l = some (t, r) → CW t
  | 0, _, _, _, h => by cases h
  | _ + 1, [], _, _, h => by cases h
  | f + 1, n :: l, t, r, h => by
    rw [par] at h
    split at h
    · rename_i hc
      obtain ⟨⟨ks, r'⟩, h1, h2⟩ := Option.map_eq_some_iff.1 h
      obtain ⟨rfl, rfl⟩ := Prod.mk.inj h2
      have := (parsBy_flat (par_flat f) _ _ _ _ h1).2
      show n.f4 = (ks.length : Int) ∧ CWs ks
      exact ⟨by omega, parsBy_cw (par_cw f) _ _ _ _ h1⟩
    · cases h
theorem opn_cw {l : List Nd} {t : Tr} (h : opn l = some t) : CW t := by
  unfold opn at h
  obtain ⟨⟨u, r⟩, h1, h2⟩ := Option.bind_eq_some_iff.1 h
  simp only at h2
  split at h2
  · cases h2; exact par_cw _ _ _ _ h1
  · cases h2
mutual
theorem par_of : ∀ (t : Tr) (f : Nat) (r : List Nd), t.flat.length ≤ f → CW t → par f (t.flat ++ r) = some (t, r)
  | .mk n ks, f, r, hf, hc => by
    simp only [Tr.flat, List.length_cons] at hf
    obtain ⟨f, rfl⟩ : ∃ m, f = m + 1 := ⟨f - 1, by omega⟩
    have hl := flats_len ks
    have h1 := hc.1
    rw [Tr.flat, List.cons_append, par, if_pos ⟨by omega, by rw [List.length_append]; omega⟩, show n.f4.toNat = ks.length from by omega, parsBy_of ks f r (by omega) hc.2]
    rfl
theorem parsBy_of : ∀ (ks : List Tr) (f : Nat) (r : List Nd), (flats ks).length ≤ f → CWs ks → parsBy (par f) ks.length (flats ks ++ r) = some (ks, r)
  | [], _, _, _, _ => rfl
  | k :: ks, f, r, hf, hc => by
    simp only [flats, List.length_append] at hf
    rw [flats, List.append_assoc, List.length_cons, parsBy, par_of k f _ (by omega) hc.1, Option.bind_some, parsBy_of ks f r (by omega) hc.2]
    rfl
end
theorem opn_of {t : Tr} (h : CW t) : opn t.flat = some t := by
  unfold opn
  have := par_of t t.flat.length [] (Nat.le_refl _) h
  rw [List.append_nil] at this
  rw [this]; rfl
theorem opn_iff {l : List Nd} {t : Tr} : opn l = some t ↔ l = t.flat ∧ CW t := ⟨fun h => ⟨opn_flat h, opn_cw h⟩, fun h => by rw [h.1]; exact opn_of h.2⟩
theorem flats_flat (ts : List Tr) : flats ts = (ts.map Tr.flat).flatten := by
  induction ts with
  | nil => rfl
  | cons t ts ih => rw [flats, ih]; rfl
def joinT (n : Nd) (ts : List Tr) : Tr := .mk ⟨n.f0, n.f1, n.f2, n.f3, (ts.length : Int)⟩ ts
theorem opn_join (n : Nd) (ts : List Tr) (h : CWs ts) : opn (joinT n ts).flat = some (joinT n ts) := opn_of ⟨rfl, h⟩
end Go.Proofs.Ytipgpnkdgofdeaa.Tm
