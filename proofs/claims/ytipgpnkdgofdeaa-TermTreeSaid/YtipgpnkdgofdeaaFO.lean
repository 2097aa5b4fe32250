import Derived.Test.YtipgpnkdgofdeaaFI
import Derived.Laws.BitsAllLaws
/-! How reals stand: plain laws. -/
namespace Go.Proofs.Ytipgpnkdgofdeaa.Fl
open Go.RowKit Ieee

/-- A word's Int is one of a word. -/
def Wd (a : Int) : Prop := 0 ≤ a ∧ a < 18446744073709551616

theorem Wd.of {a : Int} (h : (Lit.int .u64 a).wf = true) : Wd a := by
  have e1 : IntKind.u64.min = 0 := rfl
  have e2 : IntKind.u64.max = 18446744073709551615 := rfl
  simp only [Lit.wf, Bool.and_eq_true, decide_eq_true_eq, e1, e2] at h
  exact ⟨h.1, by omega⟩

/-- Where a word stands among all, every NaN one, -0 below 0. -/
def pl (a : Nat) : Int := if rg a ≤ rinf then (if sg a then -(rg a : Int) - 1 else rg a) else 9221120237041090560

theorem rg_lt (a : Nat) : rg a < 9223372036854775808 := Nat.mod_lt _ (by decide)

theorem wrap_sg {a : Nat} (_h : a < 18446744073709551616) : wrap64 (a : Int) < 0 ↔ sg a = true := by
  unfold wrap64 sg
  rw [beq_iff_eq]
  omega

theorem fedge_eq {a : Nat} (h : a < 18446744073709551616) : fedge a = if rg a ≤ rinf then (if rg a = 0 ∧ sg a = true then -1 else 0) else 2 := by
  unfold fedge
  rw [show FloatKind.f64.format = double from rfl]
  by_cases h1 : rg a ≤ rinf
  · rw [if_pos (order_self.2 h1), if_pos h1]
    have hk : key 0 = 0 := by decide
    have h0 : double.order a 0 = some .eq ↔ rg a = 0 := by
      rw [order_key h1 (by decide), hk]
      simp only [Option.some.injEq, compare, compareOfLessAndEq, key]
      split <;> split
      · exact ⟨(fun h => by cases h), by omega⟩
      · split
        · exact ⟨fun _ => by omega, fun _ => rfl⟩
        · exact ⟨(fun h => by cases h), by omega⟩
      · exact ⟨(fun h => by cases h), by omega⟩
      · split
        · exact ⟨fun _ => by omega, fun _ => rfl⟩
        · exact ⟨(fun h => by cases h), by omega⟩
    simp only [h0, wrap_sg h]
  · rw [if_neg h1, if_neg]
    rw [order_self]; exact h1

theorem order_cases (a b : Nat) : (double.order a b = some .lt ↔ rg a ≤ rinf ∧ rg b ≤ rinf ∧ key a < key b) ∧ (double.order a b = some .gt ↔ rg a ≤ rinf ∧ rg b ≤ rinf ∧ key b < key a) ∧
    (double.order a b = some .eq ↔ rg a ≤ rinf ∧ rg b ≤ rinf ∧ key a = key b) := by
  refine ⟨⟨order_lt, fun ⟨h1, h2, h3⟩ => ?_⟩, ⟨order_gt, fun ⟨h1, h2, h3⟩ => ?_⟩, ⟨order_eq, fun ⟨h1, h2, h3⟩ => ?_⟩⟩
  · rw [order_key h1 h2]; simp only [compare, compareOfLessAndEq]; rw [if_pos h3]
  · rw [order_key h1 h2]; simp only [compare, compareOfLessAndEq]; rw [if_neg (by omega), if_neg (by omega)]
  · rw [order_key h1 h2]; simp only [compare, compareOfLessAndEq]; rw [if_neg (by omega), if_pos h3]

theorem pl_cases {a : Nat} (h : a < 18446744073709551616) :
    (rg a ≤ 9218868437227405312 ∧ pl a = -(rg a : Int) - 1 ∧ key a = -(rg a : Int) ∧ ((rg a = 0 ∧ fedge a = -1) ∨ (0 < rg a ∧ fedge a = 0))) ∨
    (rg a ≤ 9218868437227405312 ∧ pl a = rg a ∧ key a = rg a ∧ fedge a = 0) ∨
    (9218868437227405312 < rg a ∧ pl a = 9221120237041090560 ∧ fedge a = 2) := by
  have hr : rinf = 9218868437227405312 := rfl
  rw [fedge_eq h]
  unfold pl key
  rw [hr]
  by_cases c : rg a ≤ 9218868437227405312
  · simp only [c, if_true, true_and]
    cases hs : sg a
    · right; left; simp
    · left; simp only [if_true, and_true, true_and]
      by_cases h0 : rg a = 0
      · left; simp [h0]
      · right; rw [if_neg h0]; omega
  · right; right
    rw [if_neg c, if_neg c]; omega

theorem ford_nat {a b : Nat} (ha : a < 18446744073709551616) (hb : b < 18446744073709551616) :
    ford a b = if pl a < pl b then -1 else if pl b < pl a then 1 else 0 := by
  obtain ⟨o1, o2, _⟩ := order_cases a b
  have la := rg_lt a
  have lb := rg_lt b
  have pa := pl_cases ha
  have pb := pl_cases hb
  unfold ford
  rw [Int.toNat_natCast, Int.toNat_natCast, show FloatKind.f64.format = double from rfl]
  simp only [o1, o2, show rinf = 9218868437227405312 from rfl]
  clear o1 o2
  generalize key a = k1 at *
  generalize key b = k2 at *
  generalize pl a = p1 at *
  generalize pl b = p2 at *
  generalize rg a = r1 at *
  generalize rg b = r2 at *
  generalize fedge a = f1 at *
  generalize fedge b = f2 at *
  rcases pa with ⟨a1, a2, a3, ⟨a4, a5⟩ | ⟨a4, a5⟩⟩ | ⟨a1, a2, a3, a4⟩ | ⟨a1, a2, a3⟩ <;> rcases pb with ⟨b1, b2, b3, ⟨b4, b5⟩ | ⟨b4, b5⟩⟩ | ⟨b1, b2, b3, b4⟩ | ⟨b1, b2, b3⟩ <;> repeat' split
  all_goals omega

theorem ford_pl {a b : Int} (ha : Wd a) (hb : Wd b) : ford a b = if pl a.toNat < pl b.toNat then -1 else if pl b.toNat < pl a.toNat then 1 else 0 := by
  have := ford_nat (a := a.toNat) (b := b.toNat) (by have := ha.2; omega) (by have := hb.2; omega)
  rwa [Int.toNat_of_nonneg ha.1, Int.toNat_of_nonneg hb.1] at this

theorem fbits_pl (a b : Nat) (ha : a < 18446744073709551616) (hb : b < 18446744073709551616) : fbits a = fbits b ↔ pl a = pl b := by
  have hr : rinf = 9218868437227405312 := rfl
  unfold fbits pl
  rw [show FloatKind.f64.format = double from rfl]
  simp only [order_self]
  have la := rg_lt a
  have lb := rg_lt b
  have wa := word_self ha
  have wb := word_self hb
  rw [double_word] at wa wb
  by_cases c1 : rg a ≤ rinf <;> by_cases c2 : rg b ≤ rinf <;> simp only [c1, c2, if_true, if_false] <;> cases h1 : sg a <;> cases h2 : sg b <;> simp only [h1, h2, if_true, Bool.false_eq_true, if_false] at * <;> omega

theorem ford_bd {a b : Int} (ha : Wd a) (hb : Wd b) : -1 ≤ ford a b ∧ ford a b ≤ 1 ∧ ford a b = -ford b a := by
  rw [ford_pl ha hb, ford_pl hb ha]
  repeat' split
  all_goals omega

theorem ford_zero {a b : Int} (ha : Wd a) (hb : Wd b) : ford a b = 0 ↔ fbits a.toNat = fbits b.toNat := by
  rw [ford_pl ha hb, fbits_pl _ _ (by have := ha.2; omega) (by have := hb.2; omega)]
  repeat' split
  all_goals omega

theorem ford_trans {a b c : Int} (ha : Wd a) (hb : Wd b) (hc : Wd c) (h1 : ford a b ≤ 0) (h2 : ford b c ≤ 0) : ford a c ≤ 0 := by
  rw [ford_pl ha hb] at h1
  rw [ford_pl hb hc] at h2
  rw [ford_pl ha hc]
  repeat' split at h1
  all_goals repeat' split at h2
  all_goals repeat' split
  all_goals omega

theorem fless_iff (a b : Int) : fless a b = true ↔ rg a.toNat ≤ rinf ∧ rg b.toNat ≤ rinf ∧ key a.toNat < key b.toNat := by
  unfold fless; rw [beq_iff_eq]; exact (order_cases _ _).1
theorem fsame_iff (a b : Int) : fsame a b = true ↔ rg a.toNat ≤ rinf ∧ rg b.toNat ≤ rinf ∧ key a.toNat = key b.toNat := by
  unfold fsame; rw [beq_iff_eq]; exact (order_cases _ _).2.2

theorem none_iff {a : Int} (ha : Wd a) : fbits a.toNat = 9221120237041090560 ↔ ¬ rg a.toNat ≤ rinf := by
  by_cases h : rg a.toNat ≤ rinf
  · have hr : rinf = 9218868437227405312 := rfl
    unfold fbits
    rw [show FloatKind.f64.format = double from rfl, if_pos (order_self.2 h)]
    have hg : rg a.toNat = a.toNat % 9223372036854775808 := rfl
    have := ha.2
    have := ha.1
    omega
  · unfold fbits; rw [if_neg (by rw [show FloatKind.f64.format = double from rfl, order_self]; exact h)]; simp [h]

/-- Is one of two a NaN? Are both noughts? -/
def nn (a b : Int) : Bool := (fbits a.toNat == 9221120237041090560) || (fbits b.toNat == 9221120237041090560)
def nought (a : Int) : Bool := bits .andNot .u64 a 9223372036854775808 == 0
def mm (a b : Int) : Bool := nought a && nought b

theorem nought_iff {a : Int} (ha : Wd a) : nought a = true ↔ rg a.toNat = 0 := by
  have h1 := ha.1
  have h2 := ha.2
  unfold nought
  rw [beq_iff_eq, u64_andNot a 9223372036854775808 h1 h2 (by omega) (by omega)]
  have e : a.toNat &&& (18446744073709551615 - (9223372036854775808 : Int).toNat) = a.toNat % 9223372036854775808 := by
    have := Nat.and_two_pow_sub_one_eq_mod a.toNat 63
    simpa using this
  rw [e]
  unfold rg
  omega

theorem nn_iff {a b : Int} (ha : Wd a) (hb : Wd b) : nn a b = true ↔ ¬ rg a.toNat ≤ rinf ∨ ¬ rg b.toNat ≤ rinf := by
  unfold nn; rw [Bool.or_eq_true, beq_iff_eq, beq_iff_eq, none_iff ha, none_iff hb]
theorem mm_iff {a b : Int} (ha : Wd a) (hb : Wd b) : mm a b = true ↔ rg a.toNat = 0 ∧ rg b.toNat = 0 := by
  unfold mm; rw [Bool.and_eq_true, nought_iff ha, nought_iff hb]

theorem less_eq {a b : Int} (ha : Wd a) (hb : Wd b) : fless a b = (decide (ford a b < 0) && !nn a b && !mm a b) := by
  have h1 := fless_iff a b
  have e1 := nn_iff ha hb
  have e2 := mm_iff ha hb
  have h2 := ford_pl ha hb
  have pa := pl_cases (a := a.toNat) (by have := ha.2; omega)
  have pb := pl_cases (a := b.toNat) (by have := hb.2; omega)
  have hr : rinf = 9218868437227405312 := rfl
  rw [Bool.eq_iff_iff, h1, h2]
  clear h1 h2
  cases hn : nn a b <;> cases hm : mm a b <;> simp only [hn, hm, Bool.false_eq_true, false_iff, true_iff] at e1 e2 <;> simp <;>
  rcases pa with ⟨a1, a2, a3, _⟩ | ⟨a1, a2, a3, a4⟩ | ⟨a1, a2, a3⟩ <;> rcases pb with ⟨b1, b2, b3, _⟩ | ⟨b1, b2, b3, b4⟩ | ⟨b1, b2, b3⟩ <;> (first | omega | (repeat' split)) <;> omega

theorem same_eq {a b : Int} (ha : Wd a) (hb : Wd b) : fsame a b = (!nn a b && ((ford a b == 0) || mm a b)) := by
  have h1 := fsame_iff a b
  have e1 := nn_iff ha hb
  have e2 := mm_iff ha hb
  have h2 := ford_pl ha hb
  have pa := pl_cases (a := a.toNat) (by have := ha.2; omega)
  have pb := pl_cases (a := b.toNat) (by have := hb.2; omega)
  have hr : rinf = 9218868437227405312 := rfl
  rw [Bool.eq_iff_iff, h1, h2]
  clear h1 h2
  cases hn : nn a b <;> cases hm : mm a b <;> simp only [hn, hm, Bool.false_eq_true, false_iff, true_iff] at e1 e2 <;> simp <;>
  rcases pa with ⟨a1, a2, a3, _⟩ | ⟨a1, a2, a3, a4⟩ | ⟨a1, a2, a3⟩ <;> rcases pb with ⟨b1, b2, b3, _⟩ | ⟨b1, b2, b3, b4⟩ | ⟨b1, b2, b3⟩ <;> (first | omega | (repeat' split)) <;> omega

/-- What a sum is, by cases. -/
theorem fadd_fin {a b : Int} (ha : rg a.toNat < rinf) (hb : rg b.toNat < rinf) : ∃ r : Nat, fadd a b = r ∧ rg r ≤ rinf ∧ key r = RS (sv a.toNat + sv b.toNat) := by
  refine ⟨_, by unfold fadd; rw [add_fin ha hb]; rfl, ?_, key_round _ _ ?_⟩
  · rw [rg_word _ (R_lt _)]; exact R_le _
  · intro h; rw [if_neg h]

theorem add_mono_fin {a b c : Int} (ha : rg a.toNat < rinf) (hb : rg b.toNat < rinf) (hc : rg c.toNat < rinf) (h : key a.toNat < key b.toNat) : fless (fadd b c) (fadd a c) = false := by
  obtain ⟨r, h1, h2, h3⟩ := fadd_fin ha hc
  obtain ⟨s, h4, h5, h6⟩ := fadd_fin hb hc
  rw [Bool.eq_false_iff, ne_eq, fless_iff, h1, h4, Int.toNat_natCast, Int.toNat_natCast, h3, h6]
  have := (sv_lt_iff _ _).2 h
  have := RS_mono (S := sv a.toNat + sv c.toNat) (T := sv b.toNat + sv c.toNat) (by omega)
  omega

theorem sum_none_l {a b : Nat} (h : rinf < rg a) : double.add a b = none := by unfold Format.add; rw [read_nan h]; rfl
theorem sum_none_r {a b : Nat} (h : rinf < rg b) : double.add a b = none := by unfold Format.add; rw [read_nan h]; cases double.read a <;> rfl
theorem sum_inf_l {a b : Nat} (ha : rg a = rinf) (hb : rg b < rinf) : double.add a b = some (double.word (sg a) rinf) := by
  obtain ⟨m, e, h1, _⟩ := read_fin hb
  unfold Format.add; rw [read_inf ha, h1]; rfl
theorem sum_inf_r {a b : Nat} (ha : rg a < rinf) (hb : rg b = rinf) : double.add a b = some (double.word (sg b) rinf) := by
  obtain ⟨m, e, h1, _⟩ := read_fin ha
  unfold Format.add; rw [read_inf hb, h1]; rfl
theorem sum_inf {a b : Nat} (ha : rg a = rinf) (hb : rg b = rinf) : double.add a b = if sg a = sg b then some (double.word (sg a) rinf) else none := by
  unfold Format.add; rw [read_inf ha, read_inf hb]
  simp only [Datum.sum]
  split <;> rfl

theorem fr_nan : rinf < rg (9221120237041090560 : Int).toNat := by decide
theorem less_nan_l {x y : Int} (h : rinf < rg x.toNat) : fless x y = false := by rw [Bool.eq_false_iff, ne_eq, fless_iff]; omega
theorem less_nan_r {x y : Int} (h : rinf < rg y.toNat) : fless x y = false := by rw [Bool.eq_false_iff, ne_eq, fless_iff]; omega
theorem key_le {a : Nat} (h : rg a ≤ rinf) : -(rinf : Int) ≤ key a ∧ key a ≤ rinf := by unfold key; split <;> omega

/-- The sum's key, where it is no NaN: what it may be. -/
theorem add_mono {a b c : Int} (h : fless a b = true) : fless (fadd b c) (fadd a c) = false := by
  obtain ⟨ha, hb, hk⟩ := (fless_iff a b).1 h
  have ra : rinf < 9223372036854775808 := by decide
  rcases Nat.lt_or_ge rinf (rg c.toNat) with hc | hc
  · exact less_nan_l (by unfold fadd; rw [sum_none_r hc]; exact fr_nan)
  rcases Nat.lt_or_eq_of_le hc with hc | hc
  · rcases Nat.lt_or_eq_of_le ha with ha' | ha'
    · rcases Nat.lt_or_eq_of_le hb with hb' | hb'
      · exact add_mono_fin ha' hb' hc hk
      · -- b is an infinity, above a
        have hs : sg b.toNat = false := by
          have := key_le ha
          unfold key at hk
          rw [hb'] at hk
          cases hs : sg b.toNat
          · rfl
          · rw [hs] at hk; simp only [if_true] at hk; split at hk <;> omega
        have e : fadd b c = (double.word false rinf : Nat) := by unfold fadd; rw [sum_inf_l hb' hc, hs]; rfl
        rw [Bool.eq_false_iff, ne_eq, fless_iff, e, Int.toNat_natCast, key_word _ ra]
        rintro ⟨_, h2, h3⟩
        have := key_le h2
        simp only [Bool.false_eq_true, if_false] at h3
        omega
    · have hs : sg a.toNat = true := by
        have := key_le hb
        unfold key at hk
        rw [ha'] at hk
        cases hs : sg a.toNat
        · rw [hs] at hk; simp only [Bool.false_eq_true, if_false] at hk; split at hk <;> omega
        · rfl
      have e : fadd a c = (double.word true rinf : Nat) := by unfold fadd; rw [sum_inf_l ha' hc, hs]; rfl
      rw [Bool.eq_false_iff, ne_eq, fless_iff, e, Int.toNat_natCast, key_word _ ra]
      rintro ⟨h1, _, h3⟩
      have := key_le h1
      simp only [if_true] at h3
      omega
  · have one : ∀ x : Int, rg x.toNat ≤ rinf → fadd x c = (double.word (sg c.toNat) rinf : Nat) ∨ fadd x c = 9221120237041090560 := by
      intro x hx
      unfold fadd
      rcases Nat.lt_or_eq_of_le hx with hx | hx
      · left; rw [sum_inf_r hx hc]; rfl
      · rw [sum_inf hx hc]
        by_cases hs : sg x.toNat = sg c.toNat
        · left; rw [if_pos hs, hs]; rfl
        · right; rw [if_neg hs]; rfl
    rcases one b hb with e1 | e1
    · rcases one a ha with e2 | e2
      · rw [e1, e2, Bool.eq_false_iff, ne_eq, fless_iff]; omega
      · exact less_nan_r (by rw [e2]; exact fr_nan)
    · exact less_nan_l (by rw [e1]; exact fr_nan)
#print axioms add_mono
end Go.Proofs.Ytipgpnkdgofdeaa.Fl
