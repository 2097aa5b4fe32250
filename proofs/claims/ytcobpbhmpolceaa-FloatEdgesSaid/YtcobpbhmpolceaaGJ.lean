import Derived.Test.YtcobpbhmpolceaaGH
import Derived.Test.YtcobpbhmpolceaaPE8
/-! FloatEdges as a plain law. -/
namespace Go.Proofs.Ytcobpbhmpolceaa.Pure
open Go.RowKit Go.Proofs.Ytcobpbhmpolceaa.Ext Go.Proofs.Ytcobpbhmpolceaa.PE Go.Proofs.YtcobpbhmpolceaaW.PrintWords Go.Proofs.YtcobpbhmpolceaaW.PrintLast Go.Proofs.YtcobpbhmpolceaaW.PrintMore Ieee
set_option linter.unusedVariables false
set_option linter.unusedSimpArgs false

theorem write_lt (d : Datum) : double.write d < 18446744073709551616 := by
  cases d with
  | number s m p => rw [write_number]; exact word_lt (RP_lt _ _)
  | infinity s => exact word_lt (r := rinf) (by decide)
  | nan s f =>
    show double.word s (rinf + f % 4503599627370496) < _
    have hr : rinf = 9218868437227405312 := rfl
    exact word_lt (by omega)
theorem fr_wd (o : Option Datum) : Wd (fr (o.map double.write)) := by
  cases o with
  | none => exact ⟨by decide, by decide⟩
  | some d => exact ⟨Int.natCast_nonneg _, by have := write_lt d; show ((double.write d : Nat) : Int) < _; omega⟩
theorem fadd_wd (a b : Int) : Wd (fadd a b) := fr_wd _
theorem fmul_wd (a b : Int) : Wd (fmul a b) := fr_wd _
theorem w64_bd (x : Int) : -9223372036854775808 ≤ wrap64 x ∧ wrap64 x ≤ 9223372036854775807 := by unfold wrap64; omega
theorem tells {a b : Int} (ha : Wd a) (hb : Wd b) (x : Int) : moidorelaw03_FloatTells.f a b (wrap64 x) = some true := by
  unfold moidorelaw03_FloatTells.f
  rw [if_pos ⟨ha, hb, (w64_bd x).1, (w64_bd x).2⟩]

theorem awake_law : moidorelaw03_awake.f = some true := by
  unfold moidorelaw03_awake.f float_Int.f float_Add.f float_Div.f float_Sub.f float_Order.f float_Same.f
  rw [k1, k2, k3, k4, k5, k6, k7, k8]
  rfl

theorem rd_wd {l : List Int} (h : ∀ x ∈ l, Wd x) (i : Int) : Wd (rd l i) := by
  unfold rd
  rw [List.getD_eq_getElem?_getD]
  cases hi : l[i.toNat]? with
  | none => exact ⟨by decide, by decide⟩
  | some y => exact h y (List.mem_of_getElem? hi)

theorem edges_loop (n : Nat) : ∀ (d k : Nat) (xs : List Int) (i : Nat), n - i = d → i ≤ n → n ≤ xs.length → xs.length + d ≤ 1000 → (∀ x ∈ xs, Wd x) → d < k →
    ∃ ys, moidorelaw03_edges.l0 k xs (n : Int) (i : Int) = some ys ∧ (∀ x ∈ ys, Wd x) ∧ ys.length ≤ 1000 := by
  intro d
  induction d with
  | zero =>
    intro k xs i h1 h2 h3 h4 h5 hk
    obtain ⟨k, rfl⟩ : ∃ m, k = m + 1 := ⟨k - 1, by omega⟩
    exact ⟨xs, by simp only [moidorelaw03_edges.l0]; rw [if_neg (by omega)], h5, by omega⟩
  | succ d ih =>
    intro k xs i h1 h2 h3 h4 h5 hk
    obtain ⟨k, rfl⟩ : ∃ m, k = m + 1 := ⟨k - 1, by omega⟩
    have hw := rd_wd h5 (i : Int)
    obtain ⟨y, hy, hy'⟩ := nat_wd hw
    have hor : Go.bits .or .u64 (rd xs (i : Int)) 9223372036854775808 = ((y ||| 9223372036854775808 : Nat) : Int) := by
      rw [hy, show (9223372036854775808 : Int) = ((9223372036854775808 : Nat) : Int) from rfl, u64_or_nat _ _ hy' (by decide)]
    have hlt : y ||| 9223372036854775808 < 18446744073709551616 := Nat.or_lt_two_pow (n := 64) hy' (by decide)
    obtain ⟨ys, e1, e2, e3⟩ := ih k (xs ++ [Go.bits .or .u64 (rd xs (i : Int)) 9223372036854775808]) (i + 1) (by omega) (by omega) (by rw [List.length_append]; omega) (by rw [List.length_append, List.length_singleton]; omega) (by
      intro x hx
      rcases List.mem_append.1 hx with hx | hx
      · exact h5 x hx
      · rw [List.mem_singleton.1 hx, hor]; exact ⟨by omega, by omega⟩) (by omega)
    refine ⟨ys, ?_, e2, e3⟩
    simp only [moidorelaw03_edges.l0]
    rw [if_pos (by omega), if_pos (by omega), if_pos (by omega), if_pos (by omega), w64_id (by omega) (by omega)]
    exact e1

def base38 : List Int := [0, 1, 2, 4503599627370495, 4503599627370496, 4503599627370497, 9007199254740992, 4368491638549381119, 4368491638549381120, 4368491638549381121, 4363988038922010624, 4602678819172646912, 4607182418800017407, 4607182418800017408, 4607182418800017409, 4611686018427387904, 4609434218613702656, 4841369599423283200, 4845873199050653695, 4845873199050653696, 4888657395510673408, 4890909195324358655, 4890909195324358656, 4890909195324358657, 4895412794951729152, 6908521828386340864, 6913025428013711360, 9209861237972664320, 9214364837600034816, 9218868437227405311, 9218868437227405312, 9218868437227405313, 9221120237041090559, 9221120237041090560, 9221120237041090561, 9223372036854775807, 2305843009213693952, 2301339409586323463]
theorem edges_law : ∃ l, (∀ k, 100 ≤ k → moidorelaw03_edges.f k = some l) ∧ (∀ x ∈ l, Wd x) ∧ l.length ≤ 1000 := by
  have hall : ∀ x ∈ base38, Wd x := by
    have hb : base38.all (fun x => decide (0 ≤ x) && decide (x < 18446744073709551616)) = true := by decide
    intro x hx
    have := List.all_eq_true.1 hb x hx
    simp only [Bool.and_eq_true, decide_eq_true_eq] at this
    exact this
  have main := fun k => edges_loop 38 38 k base38 0 rfl (by omega) (by decide) (by decide) hall
  obtain ⟨ys, e1, e2, e3⟩ := main 39 (by omega)
  refine ⟨ys, fun k hk => ?_, e2, e3⟩
  obtain ⟨zs, z1, -⟩ := main k (by omega)
  have hmono : ∀ d, moidorelaw03_edges.l0 (39 + d) base38 38 0 = some ys := by
    intro d
    induction d with
    | zero => exact e1
    | succ d ih => exact (moidorelaw03_edges.mono_l _ _ _ _ _ ih)
  have := hmono (k - 39)
  rw [show 39 + (k - 39) = k from by omega] at this
  unfold moidorelaw03_edges.f
  rw [Option.bind_some]
  exact this

theorem inner (l : List Int) (h : ∀ x ∈ l, Wd x) (hl : l.length ≤ 1000) (i : Nat) (hi : i < l.length) : ∀ (d k j : Nat), l.length - j = d → j ≤ l.length → 1 ≤ k →
    moidorelaw03_FloatEdges.l1 (k + d + 1) l (i : Int) (j : Int) = moidorelaw03_FloatEdges.l0 k l ((i + 1 : Nat) : Int) := by
  intro d
  induction d with
  | zero =>
    intro k j h1 h2 hk
    simp only [moidorelaw03_FloatEdges.l1]
    rw [if_neg (by omega), w64_id (by omega) (by omega)]; rfl
  | succ d ih =>
    intro k j h1 h2 hk
    have t1 := tells (rd_wd h (i : Int)) (rd_wd h (j : Int)) (wrap64 (shl .i64 1 (IntKind.u64.wrap (Int.tmod (wrap64 ((i : Int) + (j : Int))) 64)) + Int.tmod (j : Int) 5) - 2)
    have t2 := tells (fadd_wd (rd l (i : Int)) (rd l (j : Int))) (rd_wd h (j : Int)) (-(wrap64 (wrap64 (shl .i64 1 (IntKind.u64.wrap (Int.tmod (wrap64 ((i : Int) + (j : Int))) 64)) + Int.tmod (j : Int) 5) - 2)))
    have t3 := tells (fmul_wd (rd l (i : Int)) (rd l (j : Int))) (rd_wd h (i : Int)) (wrap64 (shl .i64 1 (IntKind.u64.wrap (Int.tmod (wrap64 ((i : Int) + (j : Int))) 64)) + Int.tmod (j : Int) 5) - 2)
    have hnn : 0 ≤ IntKind.u64.wrap (Int.tmod (wrap64 ((i : Int) + (j : Int))) 64) := by rw [wrap_u64]; omega
    rw [show k + (d + 1) + 1 = k + d + 1 + 1 from rfl]
    simp only [moidorelaw03_FloatEdges.l1]
    rw [if_pos (by omega), if_pos hnn, if_pos (by omega), if_pos (by omega), if_pos (by omega), t1, Option.bind_some, if_pos rfl]
    unfold float_Add.f float_Mul.f
    rw [Option.bind_some, t2, Option.bind_some, if_pos rfl, Option.bind_some, t3, Option.bind_some, if_pos rfl, w64_id (by omega) (by omega)]
    exact ih k (j + 1) (by omega) (by omega) hk

theorem outer (l : List Int) (h : ∀ x ∈ l, Wd x) (hl : l.length ≤ 1000) : ∀ (d k i : Nat), l.length - i = d → i ≤ l.length → 10 + d * 2000 ≤ k → moidorelaw03_FloatEdges.l0 k l (i : Int) = some true := by
  intro d
  induction d with
  | zero =>
    intro k i h1 h2 hk
    obtain ⟨k, rfl⟩ : ∃ m, k = m + 1 := ⟨k - 1, by omega⟩
    have w0 : Wd 0 := ⟨by decide, by decide⟩
    have t1 := tells w0 w0 (-9223372036854775808)
    have t2 := tells w0 w0 9223372036854775807
    rw [w64_id (by decide) (by decide)] at t1 t2
    simp only [moidorelaw03_FloatEdges.l0]
    rw [if_neg (by omega), t1, Option.bind_some, if_pos rfl, t2, Option.bind_some, if_pos rfl, awake_law]; rfl
  | succ d ih =>
    intro k i h1 h2 hk
    obtain ⟨m, hm⟩ : ∃ m, k = m + l.length + 1 + 1 := ⟨k - l.length - 2, by omega⟩
    have hm1 : 1 ≤ m := by omega
    have hm2 : 10 + d * 2000 ≤ m := by
      rw [Nat.succ_mul] at hk
      generalize d * 2000 = z at hk ⊢
      omega
    have hd : l.length - (i + 1) = d := by omega
    have hi : i < l.length := by omega
    subst hm
    clear hk h1 h2
    simp only [moidorelaw03_FloatEdges.l0]
    rw [if_pos (by omega)]
    have := inner l h hl i hi l.length m 0 rfl (by omega) hm1
    rw [show ((0 : Nat) : Int) = 0 from rfl] at this
    rw [this]
    exact ih m (i + 1) hd hi hm2

theorem FloatEdges_law : ∃ k, moidorelaw03_FloatEdges.f k = some true := by
  obtain ⟨l, e1, e2, e3⟩ := edges_law
  obtain ⟨K, hK⟩ : ∃ K : Nat, K = 200 + l.length * 2000 := ⟨_, rfl⟩
  refine ⟨K, ?_⟩
  unfold moidorelaw03_FloatEdges.f
  rw [e1 K (by omega), Option.bind_some]
  exact outer l e2 e3 l.length K 0 rfl (by omega) (by omega)
end Go.Proofs.Ytcobpbhmpolceaa.Pure
