import Derived.Test.YtajkmblcphdnbaaVS
/-! Plain laws: what a call puts, the same ask tells; what an ask tells, the same call puts. -/
namespace Go.Proofs.Ytajkmblcphdnbaa
open Go.RowKit
set_option linter.unusedVariables false
set_option linter.unusedSimpArgs false

theorem beB_succ (k n : Nat) : beB (k + 1) n = beB k (n / 256) ++ [n % 256] := by
  unfold beB
  rw [List.range_succ, List.map_append]
  congr 1
  · apply List.map_congr_left
    intro j hj
    have hj := List.mem_range.1 hj
    rw [Nat.div_div_eq_div_mul, show 256 * 2 ^ (8 * (k - 1 - j)) = 2 ^ (8 * (k + 1 - 1 - j)) from by
      rw [show (256 : Nat) = 2 ^ 8 from rfl, ← Nat.pow_add]
      congr 1
      omega]
  · simp
theorem be_beB (k n : Nat) (h : n < 256 ^ k) : be (beB k n) = n := by
  induction k generalizing n with
  | zero => simp at h; subst h; rfl
  | succ k ih =>
    rw [beB_succ, be_snoc, ih (n / 256) (by rw [Nat.pow_succ] at h; omega)]
    omega
theorem beB_be (l : List Nat) (h : ∀ x ∈ l, x < 256) : beB l.length (be l) = l := by
  have key : ∀ n, ∀ l : List Nat, l.length = n → (∀ x ∈ l, x < 256) → beB n (be l) = l := by
    intro n
    induction n with
    | zero => intro l hl _; rw [List.length_eq_zero_iff.1 hl]; rfl
    | succ n ih =>
      intro l hl h
      have h0 : l ≠ [] := by intro e; rw [e] at hl; cases hl
      rw [← List.dropLast_concat_getLast h0] at h ⊢
      have h1 := ih l.dropLast (by rw [List.length_dropLast]; omega) (fun x hx => h x (by simp [hx]))
      have h2 := h (l.getLast h0) (by simp)
      rw [be_snoc, beB_succ, show (be l.dropLast * 256 + l.getLast h0) / 256 = be l.dropLast from by omega, show (be l.dropLast * 256 + l.getLast h0) % 256 = l.getLast h0 from by omega, h1]
  exact key _ l rfl h
theorem beB_num (l : List Nat) (h : ∀ x ∈ l, x < 256) (k : Nat) (hk : k ≤ l.length) : beB k (num k (some l)) = l.take k := by
  have := beB_be (l.take k) (fun x hx => h x (List.mem_of_mem_take hx))
  rw [List.length_take, Nat.min_eq_left hk] at this
  simp only [num, if_pos hk]
  exact this
theorem pow_8 (k : Nat) : 256 ^ k = 2 ^ (8 * k) := by rw [show (256 : Nat) = 2 ^ 8 from rfl, ← Nat.pow_mul]

/-- What a call puts; none: it spoils the writer. -/
def encK (x : PutD) : Nat → Option (List Nat)
  | 0 => if BelC 1 x.n then some (beB 1 x.n.toNat) else none
  | 1 => if BelC 2 x.n then some (beB 2 x.n.toNat) else none
  | 2 => if BelC 4 x.n then some (beB 4 x.n.toNat) else none
  | 3 => some (beB 8 x.u)
  | 4 => some (beB 8 x.u)
  | 5 => some x.h
  | 6 => some x.b
  | 7 => if BelC 2 (x.s.length : Int) then some (beB 2 x.s.length ++ x.s) else none
  | 8 => some (beB 1 (if (x.n == 1) = true then 1 else 0))
  | _ => if x.n = 7 then none else some []
theorem putK_none (x : PutD) (k : Nat) : putK x none k = none := by
  unfold putK
  split <;> first | rfl | (split <;> rfl)
theorem putK_enc (x : PutD) (c : List Nat) (k : Nat) : putK x (some c) k = (encK x k).map (c ++ ·) := by
  unfold putK encK
  split
  · simp only [wBel]; split <;> simp
  · simp only [wBel]; split <;> simp
  · simp only [wBel]; split <;> simp
  · rfl
  · rfl
  · rfl
  · rfl
  · simp only [wBel]; split <;> simp
  · have h : BelC 1 (if (x.n == 1) = true then 1 else 0) := by unfold BelC; split <;> decide
    rw [wBel, if_pos h]
    by_cases h1 : (x.n == 1) = true <;> simp [h1]
  · split <;> simp
/-- What is left behind the same ask. -/
def askN (x : PutD) (st : Option (List Nat)) : Nat → Option (List Nat)
  | 0 => nxt 1 st
  | 1 => nxt 2 st
  | 2 => nxt 4 st
  | 3 => nxt 8 st
  | 4 => nxt 8 st
  | 5 => nxt 32 st
  | 6 => rawN (x.b.length : Int) st
  | 7 => textN (x.s.length : Int) st
  | 8 => flagN st
  | _ => st
/-- Does it tell what was put? -/
def askT (x : PutD) (st : Option (List Nat)) : Nat → Prop
  | 0 => (num 1 st : Int) = x.n
  | 1 => (num 2 st : Int) = x.n
  | 2 => (num 4 st : Int) = x.n
  | 3 => num 8 st = x.u
  | 4 => num 8 st = x.u
  | 5 => hshV st = x.h
  | 6 => rawB (x.b.length : Int) st = x.b
  | 7 => textB (x.s.length : Int) st = x.s
  | 8 => flagV st = (x.n == 1)
  | _ => True
theorem num_app (k : Nat) (n : Nat) (r : List Nat) (h : n < 256 ^ k) : num k (some (beB k n ++ r)) = n := by
  have h1 : k ≤ (beB k n ++ r).length := by rw [List.length_append, beB_len]; omega
  simp only [num, if_pos h1]
  rw [List.take_left' (beB_len k n), be_beB k n h]
theorem nxt_app (k : Nat) (e r : List Nat) (h : e.length = k) : nxt k (some (e ++ r)) = some r := by
  subst h
  simp [nxt]
theorem belC_lt {k : Nat} {n : Int} (h : BelC k n) : n.toNat < 256 ^ k ∧ (n.toNat : Int) = n := by
  rw [pow_8]
  obtain ⟨h1, h2⟩ := h
  omega
theorem ask_put (x : PutD) (hx : x.Ok) (k : Nat) (e r : List Nat) (h : encK x k = some e) : askN x (some (e ++ r)) k = some r ∧ askT x (some (e ++ r)) k := by
  unfold encK at h
  split at h
  · split at h <;> cases h
    rename_i hb
    obtain ⟨h1, h2⟩ := belC_lt hb
    exact ⟨nxt_app 1 _ r (beB_len 1 _), by simp only [askT]; rw [num_app 1 _ r h1]; exact h2⟩
  · split at h <;> cases h
    rename_i hb
    obtain ⟨h1, h2⟩ := belC_lt hb
    exact ⟨nxt_app 2 _ r (beB_len 2 _), by simp only [askT]; rw [num_app 2 _ r h1]; exact h2⟩
  · split at h <;> cases h
    rename_i hb
    obtain ⟨h1, h2⟩ := belC_lt hb
    exact ⟨nxt_app 4 _ r (beB_len 4 _), by simp only [askT]; rw [num_app 4 _ r h1]; exact h2⟩
  · cases h
    exact ⟨nxt_app 8 _ r (beB_len 8 _), num_app 8 _ r (by have := hx.u1; omega)⟩
  · cases h
    exact ⟨nxt_app 8 _ r (beB_len 8 _), num_app 8 _ r (by have := hx.u1; omega)⟩
  · cases h
    refine ⟨nxt_app 32 _ r hx.h32, ?_⟩
    have h1 : 32 ≤ (x.h ++ r).length := by rw [List.length_append, hx.h32]; omega
    simp only [askT, hshV, if_pos h1]
    exact List.take_left' hx.h32
  · cases h
    have h1 : RawC (x.b.length : Int) (x.b ++ r) := by unfold RawC; rw [List.length_append]; omega
    exact ⟨by simp [askN, rawN, if_pos h1], by simp [askT, rawB, if_pos h1]⟩
  · split at h <;> cases h
    rename_i hb
    obtain ⟨h1, h2⟩ := belC_lt hb
    have h3 : (x.s.length : Int).toNat = x.s.length := by omega
    rw [h3] at h1
    have ht : ((beB 2 x.s.length ++ x.s) ++ r).take 2 = beB 2 x.s.length := by rw [List.append_assoc]; exact List.take_left' (beB_len 2 _)
    have hd : ((beB 2 x.s.length ++ x.s) ++ r).drop 2 = x.s ++ r := by rw [List.append_assoc]; exact List.drop_left' (beB_len 2 _)
    have hc : TextC (x.s.length : Int) ((beB 2 x.s.length ++ x.s) ++ r) := by
      unfold TextC
      rw [ht, be_beB 2 _ h1]
      simp only [List.length_append, beB_len]
      omega
    refine ⟨?_, ?_⟩
    · simp only [askN, textN, if_pos hc]
      rw [ht, hd, be_beB 2 _ h1]; simp
    · simp only [askT, textB, if_pos hc]
      rw [ht, hd, be_beB 2 _ h1]; simp
  · cases h
    by_cases h1 : (x.n == 1) = true
    · simp only [askN, askT, flagN, flagV, h1]
      simp [beB, be]
    · simp only [askN, askT, flagN, flagV, h1]
      simp [beB, be]
  · split at h <;> cases h
    exact ⟨by unfold askN; split <;> simp_all, by unfold askT; split <;> simp_all⟩
theorem askN_none (x : PutD) (k : Nat) : askN x none k = none := by
  unfold askN
  split <;> rfl
theorem nxt_pre {j : Nat} {q q' t e r : List Nat} (he : e.length = j) (hq : q ++ t = e ++ r) (h : nxt j (some q) = some q') : q' ++ t = r := by
  subst he
  simp only [nxt] at h
  split at h <;> cases h
  rename_i hl
  have := congrArg (List.drop e.length) hq
  rw [List.drop_append_of_le_length hl, List.drop_left] at this
  exact this
/-- What is cut is told to no end. -/
theorem ask_pre (x : PutD) (hx : x.Ok) (k : Nat) (q q' t e r : List Nat) (he : encK x k = some e) (hq : q ++ t = e ++ r) (h : askN x (some q) k = some q') : q' ++ t = r := by
  unfold encK at he
  split at he
  · split at he <;> cases he
    exact nxt_pre (beB_len 1 _) hq h
  · split at he <;> cases he
    exact nxt_pre (beB_len 2 _) hq h
  · split at he <;> cases he
    exact nxt_pre (beB_len 4 _) hq h
  · cases he
    exact nxt_pre (beB_len 8 _) hq h
  · cases he
    exact nxt_pre (beB_len 8 _) hq h
  · cases he
    exact nxt_pre hx.h32 hq h
  · cases he
    simp only [askN, rawN] at h
    split at h <;> cases h
    rename_i hl
    unfold RawC at hl
    have := congrArg (List.drop x.b.length) hq
    rw [List.drop_append_of_le_length (by omega), List.drop_left] at this
    simpa using this
  · split at he <;> cases he
    rename_i hb
    obtain ⟨h1, h2⟩ := belC_lt hb
    have h3 : (x.s.length : Int).toNat = x.s.length := by omega
    rw [h3] at h1
    simp only [askN, textN] at h
    split at h <;> cases h
    rename_i hl
    unfold TextC at hl
    have ht : q.take 2 = beB 2 x.s.length := by
      have := congrArg (List.take 2) hq
      rw [List.take_append_of_le_length hl.1, List.append_assoc, List.take_left' (beB_len 2 _)] at this
      exact this
    have hd : q.drop 2 ++ t = x.s ++ r := by
      have := congrArg (List.drop 2) hq
      rw [List.drop_append_of_le_length hl.1, List.append_assoc, List.drop_left' (beB_len 2 _)] at this
      exact this
    rw [ht, be_beB 2 _ h1] at hl ⊢
    have := congrArg (List.drop x.s.length) hd
    rw [List.drop_append_of_le_length (by rw [List.length_drop]; omega), List.drop_left] at this
    exact this
  · cases he
    simp only [askN, flagN] at h
    split at h <;> cases h
    rename_i hl
    have := congrArg (List.drop 1) hq
    rw [List.drop_append_of_le_length hl.1, List.drop_left' (beB_len 1 _)] at this
    exact this
  · split at he <;> cases he
    have h1 : askN x (some q) k = some q := by unfold askN; split <;> simp_all
    rw [h1] at h
    cases h
    exact hq

/-- What the same call puts of what an ask tells. -/
def agW (x : PutD) (st wst : Option (List Nat)) : Nat → Option (List Nat)
  | 0 => wBel 1 (num 1 st : Int) wst
  | 1 => wBel 2 (num 2 st : Int) wst
  | 2 => wBel 4 (num 4 st : Int) wst
  | 3 => wst.map (· ++ beB 8 (num 8 st))
  | 4 => wst.map (· ++ beB 8 (num 8 st))
  | 5 => wst.map (· ++ hshV st)
  | 6 => wst.map (· ++ rawB x.n st)
  | 7 => (wBel 2 ((textB x.n st).length : Int) wst).map (· ++ textB x.n st)
  | 8 => wBel 1 (if flagV st = true then 1 else 0) wst
  | _ => wBel 2 (cntV x.n st : Int) wst
theorem wBel_num (j : Nat) (l c : List Nat) (h : ∀ z ∈ l, z < 256) (hj : j ≤ l.length) : wBel j (num j (some l) : Int) (some c) = some (c ++ l.take j) := by
  have hb := be_lt (l.take j) (fun z hz => h z (List.mem_of_mem_take hz))
  rw [List.length_take, Nat.min_eq_left hj, pow_8] at hb
  have hn : num j (some l) = be (l.take j) := by simp only [num, if_pos hj]
  have h1 : BelC j (num j (some l) : Int) := by unfold BelC; rw [hn]; omega
  rw [wBel, if_pos h1, Int.toNat_natCast, beB_num l h j hj]
/-- An ask that is met: the same call puts just what was taken. -/
theorem again_put (x : PutD) (k : Nat) (l r : List Nat) (h8 : ∀ z ∈ l, z < 256) (h : nextK x (some l) k = some r) : ∃ e, l = e ++ r ∧ ∀ c, agW x (some l) (some c) k = some (c ++ e) := by
  have one : ∀ j, nxt j (some l) = some r → j ≤ l.length ∧ l = l.take j ++ r := by
    intro j h
    simp only [nxt] at h
    split at h <;> cases h
    rename_i hl
    exact ⟨hl, (List.take_append_drop j l).symm⟩
  unfold nextK at h
  split at h
  · obtain ⟨h1, h2⟩ := one 1 h; exact ⟨_, h2, fun c => by simp only [agW]; exact wBel_num 1 l c h8 h1⟩
  · obtain ⟨h1, h2⟩ := one 2 h; exact ⟨_, h2, fun c => by simp only [agW]; exact wBel_num 2 l c h8 h1⟩
  · obtain ⟨h1, h2⟩ := one 4 h; exact ⟨_, h2, fun c => by simp only [agW]; exact wBel_num 4 l c h8 h1⟩
  · obtain ⟨h1, h2⟩ := one 8 h; exact ⟨_, h2, fun c => by simp only [agW, Option.map_some]; rw [beB_num l h8 8 h1]⟩
  · obtain ⟨h1, h2⟩ := one 8 h; exact ⟨_, h2, fun c => by simp only [agW, Option.map_some]; rw [beB_num l h8 8 h1]⟩
  · obtain ⟨h1, h2⟩ := one 32 h; exact ⟨_, h2, fun c => by simp only [agW, Option.map_some, hshV, if_pos h1]⟩
  · simp only [rawN] at h
    split at h <;> cases h
    rename_i hl
    exact ⟨_, (List.take_append_drop _ l).symm, fun c => by simp only [agW, Option.map_some, rawB, if_pos hl]⟩
  · simp only [textN] at h
    split at h <;> cases h
    rename_i hl
    have hl' := hl
    unfold TextC at hl'
    have hT : textB x.n (some l) = (l.drop 2).take (be (l.take 2)) := by simp only [textB, if_pos hl]
    have hlen : (textB x.n (some l)).length = be (l.take 2) := by rw [hT, List.length_take, List.length_drop]; omega
    have hn : num 2 (some l) = be (l.take 2) := by simp only [num, if_pos hl'.1]
    refine ⟨l.take 2 ++ (l.drop 2).take (be (l.take 2)), ?_, fun c => ?_⟩
    · rw [List.append_assoc, List.take_append_drop, List.take_append_drop]
    · have := wBel_num 2 l c h8 hl'.1
      rw [hn] at this
      simp only [agW]
      rw [hlen, this, hT]
      simp
  · simp only [flagN] at h
    split at h <;> cases h
    rename_i hl
    refine ⟨l.take 1, (List.take_append_drop 1 l).symm, fun c => ?_⟩
    have := wBel_num 1 l c h8 hl.1
    have hn : num 1 (some l) = be (l.take 1) := by simp only [num, if_pos hl.1]
    rw [hn] at this
    simp only [agW, flagV, if_pos hl]
    rw [← this]
    have h2 : be (l.take 1) = 0 ∨ be (l.take 1) = 1 := by omega
    rcases h2 with h2 | h2 <;> simp only [h2] <;> rfl
  · simp only [cntN] at h
    split at h <;> cases h
    rename_i hl
    refine ⟨l.take 2, (List.take_append_drop 2 l).symm, fun c => ?_⟩
    have := wBel_num 2 l c h8 hl.1
    have hn : num 2 (some l) = be (l.take 2) := by simp only [num, if_pos hl.1]
    rw [hn] at this
    simp only [agW, cntV, if_pos hl]
    exact this
end Go.Proofs.Ytajkmblcphdnbaa
