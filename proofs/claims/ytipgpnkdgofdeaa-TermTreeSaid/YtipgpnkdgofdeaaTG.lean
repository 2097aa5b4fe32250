import Derived.Test.YtipgpnkdgofdeaaTF
import Derived.Test.YtipgpnkdgofdeaaFU
import Derived.Test.YtipgpnkdgofdeaaY
/-! Which of two branches stands ahead: numbers, texts, the first that is not 0. -/
namespace Go.Proofs.Ytipgpnkdgofdeaa.Tm
open Go.RowKit Go.Proofs.Ytipgpnkdgofdeaa.Fl
set_option linter.unusedVariables false
set_option linter.unusedSimpArgs false

def icmp (a b : Int) : Int := if a < b then -1 else if b < a then 1 else 0
def bcmp (a b : ByteArray) : Int := Lib.compareBytes a.data.toList b.data.toList
/-- The first that is not 0. -/
def fnz : List Int → Int
  | [] => 0
  | x :: r => if x = 0 then fnz r else x
def ncmp (x y : Nd) : Int := fnz [icmp x.f0 y.f0, icmp x.f1 y.f1, ford x.f2 y.f2, bcmp x.f3 y.f3]
mutual
def ord : Tr → Tr → Int
  | .mk n ks, .mk m js => if ncmp n m = 0 then ords ks js else ncmp n m
def ords : List Tr → List Tr → Int
  | [], [] => 0
  | [], _ :: _ => -1
  | _ :: _, [] => 1
  | k :: ks, j :: js => if ord k j = 0 then ords ks js else ord k j
end

theorem nanK_any (a : Int) (w : World) : Calls Try.prog 86 #[.int .i64 a] w fun e w' => e = .returned (.bool false) ∧ w = w' := by
  go_enter Try.func86, Try.ntmps86
  go_wp2
  go_ret
  exact ⟨by simp, rfl⟩
theorem nanI_any (a : Int) (w : World) : Calls Try.prog 87 #[.int .i64 a] w fun e w' => e = .returned (.bool false) ∧ w = w' := by
  go_enter Try.func87, Try.ntmps87
  go_wp2
  go_ret
  exact ⟨by simp, rfl⟩
theorem cmpK_any (a b : Int) (w : World) : Calls Try.prog 65 #[.int .i64 a, .int .i64 b] w fun e w' => e = .returned (.int .i64 (icmp a b)) ∧ w = w' := by
  by_cases h1 : a < b
  · have e : icmp a b = -1 := by unfold icmp; rw [if_pos h1]
    rw [e]; clear e
    go_enter Try.func65, Try.ntmps65
    go_wp2_with (go_at_call 86; refine (nanK_any _ _).mono ?_; rintro e w' ⟨rfl, rfl⟩)
    go_ret
    exact ⟨rfl, rfl⟩
  · by_cases h2 : b < a
    · have e : icmp a b = 1 := by unfold icmp; rw [if_neg h1, if_pos h2]
      rw [e]; clear e
      go_enter Try.func65, Try.ntmps65
      go_wp2_with (go_at_call 86; refine (nanK_any _ _).mono ?_; rintro e w' ⟨rfl, rfl⟩)
      go_ret
      exact ⟨rfl, rfl⟩
    · have e : icmp a b = 0 := by unfold icmp; rw [if_neg h1, if_neg h2]
      rw [e]; clear e
      go_enter Try.func65, Try.ntmps65
      go_wp2_with (go_at_call 86; refine (nanK_any _ _).mono ?_; rintro e w' ⟨rfl, rfl⟩)
      go_ret
      exact ⟨rfl, rfl⟩
theorem cmpI_any (a b : Int) (w : World) : Calls Try.prog 66 #[.int .i64 a, .int .i64 b] w fun e w' => e = .returned (.int .i64 (icmp a b)) ∧ w = w' := by
  by_cases h1 : a < b
  · have e : icmp a b = -1 := by unfold icmp; rw [if_pos h1]
    rw [e]; clear e
    go_enter Try.func66, Try.ntmps66
    go_wp2_with (go_at_call 87; refine (nanI_any _ _).mono ?_; rintro e w' ⟨rfl, rfl⟩)
    go_ret
    exact ⟨rfl, rfl⟩
  · by_cases h2 : b < a
    · have e : icmp a b = 1 := by unfold icmp; rw [if_neg h1, if_pos h2]
      rw [e]; clear e
      go_enter Try.func66, Try.ntmps66
      go_wp2_with (go_at_call 87; refine (nanI_any _ _).mono ?_; rintro e w' ⟨rfl, rfl⟩)
      go_ret
      exact ⟨rfl, rfl⟩
    · have e : icmp a b = 0 := by unfold icmp; rw [if_neg h1, if_neg h2]
      rw [e]; clear e
      go_enter Try.func66, Try.ntmps66
      go_wp2_with (go_at_call 87; refine (nanI_any _ _).mono ?_; rintro e w' ⟨rfl, rfl⟩)
      go_ret
      exact ⟨rfl, rfl⟩
theorem or_any (xs : List Int) (A : Option Addr) (c : Nat) (w : World) (hl : xs.length ≤ 1000) (hx : ∀ j x, xs[j]? = some x → ∃ b off, A = some ⟨b, off, none⟩ ∧ w.cell? ⟨b, off + j, none⟩ = some (.int .i64 x)) :
    Calls Try.prog 64 #[.slice A xs.length c] w fun e w' => e = .returned (.int .i64 (fnz xs)) ∧ w = w' := by
  have HX := Lib.hid hx
  clear hx
  go_enter Try.func64, Try.ntmps64
  go_wp2
  go_loop [8] (fun i => ∃ j : Nat, j ≤ xs.length ∧ i = .int .i64 j ∧ fnz xs = fnz (xs.drop j)) (fun i => xs.length - (intOf i).toNat)
  case atStart => exact ⟨0, by omega, rfl, rfl⟩
  case round =>
    obtain ⟨j, hj, rfl, he⟩ := hrel
    have HE := Lib.hid he
    clear he
    by_cases hlt : j < xs.length
    · obtain ⟨x, hx⟩ : ∃ x, xs[j]? = some x := ⟨_, List.getElem?_eq_getElem hlt⟩
      obtain ⟨b, off, rfl, hc⟩ := HX.out j x hx
      have hd : xs.drop j = x :: xs.drop (j + 1) := by
        rw [List.drop_eq_getElem_cons hlt]; congr 1
        exact Option.some.inj ((List.getElem?_eq_getElem hlt).symm.trans hx)
      have HD := Lib.hid hd
      clear hx hd
      by_cases h0 : x = 0
      · subst h0
        go_wp2
        go_round
        case rel => exact ⟨j + 1, by omega, by go_num, by rw [HE.out, HD.out]; rfl⟩
        case measure => simp [intOf]; omega
      · go_wp2
        go_ret
        exact ⟨by rw [HE.out, HD.out, fnz, if_neg h0]; rfl, rfl⟩
    · obtain rfl : j = xs.length := by omega
      go_wp2
      go_ret
      exact ⟨by rw [HE.out, List.drop_length]; rfl, rfl⟩
end Go.Proofs.Ytipgpnkdgofdeaa.Tm
