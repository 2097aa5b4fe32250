import Derived.Test.YtjpimfbkdighfaaSE
namespace Go.Proofs.Ytjpimfbkdighfaa
open Go.RowKit

theorem hsN_shift (K H S xs : List Nat) (q : Nat) (hq : 64 * q ≤ S.length) (n : Nat) : hsN K (hsN K H S q) (S.drop (64 * q) ++ xs) n = hsN K H (S ++ xs) (q + n) := by
  have h1 : ∀ i, i ≤ q → hsN K H S i = hsN K H (S ++ xs) i := by
    intro i
    induction i with
    | zero => intro _; rfl
    | succ i ih =>
      intro hi
      rw [hsN, hsN, ih (by omega)]
      congr 1
      rw [List.drop_append_of_le_length (by omega), List.take_append_of_le_length (by rw [List.length_drop]; omega)]
  induction n with
  | zero => rw [hsN, Nat.add_zero]; exact h1 q (Nat.le_refl _)
  | succ n ih =>
    rw [hsN, ih, ← Nat.add_assoc, hsN]
    congr 2
    rw [← List.drop_append_of_le_length hq, List.drop_drop]
    congr 1
    omega

/-- The state behind a stream of bytes. -/
def hsOf (S : List Nat) : List Nat := hsN KS HS S (S.length / 64)
def tailOf (S : List Nat) : List Nat := S.drop (64 * (S.length / 64))
theorem st_app (S xs : List Nat) : hsN KS (hsOf S) (tailOf S ++ xs) ((tailOf S ++ xs).length / 64) = hsOf (S ++ xs) ∧ (tailOf S ++ xs).drop (64 * ((tailOf S ++ xs).length / 64)) = tailOf (S ++ xs) := by
  have hq : 64 * (S.length / 64) ≤ S.length := by omega
  have hl : (tailOf S ++ xs).length = S.length - 64 * (S.length / 64) + xs.length := by rw [List.length_append, tailOf, List.length_drop]
  have hn : S.length / 64 + (tailOf S ++ xs).length / 64 = (S ++ xs).length / 64 := by rw [hl, List.length_append]; omega
  constructor
  · rw [hsOf, hsOf, ← hn, ← hsN_shift KS HS S xs _ hq]; rfl
  · show _ = (S ++ xs).drop (64 * ((S ++ xs).length / 64))
    rw [← hn]
    generalize (tailOf S ++ xs).length / 64 = n
    rw [tailOf, ← List.drop_append_of_le_length hq, List.drop_drop]
    congr 1
    omega
theorem tailOf_len (S : List Nat) : (tailOf S).length = S.length % 64 := by rw [tailOf, List.length_drop]; omega

theorem put_st (S xs : List Nat) (lv v : Value) (m : Nat) (w : World) (G B : Nat) (hB : B ≤ G) (hw : Wk G (hsOf S) KS (tailOf S) m lv w) (hx : ∀ x ∈ xs, x < 256) (hlen : xs.length ≤ 90000) (hm : m + xs.length ≤ 100000000) (hv : Rd w v xs.length (u8s xs)) (hvG : u8s xs = [] ∨ v.ownBlock ≠ some G) :
    Calls Try.prog 23 #[.pointer (some ⟨G, 0, none⟩), v] w fun e w' =>
      e = .returned (.tuple #[]) ∧ Below B w w' ∧ ∃ lv', Wk G (hsOf (S ++ xs)) KS (tailOf (S ++ xs)) (m + xs.length) lv' w' := by
  have hl : (tailOf S).length ≤ 64 := by rw [tailOf_len]; omega
  refine (put_any (hsOf S) KS (tailOf S) xs lv v m w G B hB hw hx (by omega) hm hv hvG).mono ?_
  rintro e w' ⟨rfl, q, lv', h⟩
  rw [(st_app S xs).1, (st_app S xs).2] at h
  exact ⟨rfl, q, lv', h⟩

/-- Bytes as they are hashed: a mark, noughts, their length. -/
def zs (n : Nat) : Nat := (119 - n % 64) % 64
def be8 (n : Nat) : List Nat := (List.range 8).map fun j => (n >>> (56 - 8 * j)) % 256
def padded (b : List Nat) : List Nat := ((b ++ [128]) ++ List.replicate (zs b.length) 0) ++ be8 (b.length * 8)
/-- THE HASH. -/
def sha (b : List Nat) : List Nat := hashB (hsOf (padded b))
theorem be8_len (n : Nat) : (be8 n).length = 8 := by simp [be8]
end Go.Proofs.Ytjpimfbkdighfaa
