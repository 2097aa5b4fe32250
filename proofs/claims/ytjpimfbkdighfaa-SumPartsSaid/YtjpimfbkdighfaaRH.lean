import Derived.Test.YtjpimfbkdighfaaRG
import Derived.Test.YtjpimfbkdighfaaE
namespace Go.Proofs.Ytjpimfbkdighfaa
open Go.RowKit

theorem Parts.below {w w' : World} {v : Value} {xss : List (List Nat)} (h : Parts w v xss) (hb : Qt w w') : Parts w' v xss := by
  obtain ⟨⟨vs, h1, h2, h3⟩, h4⟩ := h
  exact ⟨⟨vs, h1.below hb, h2, fun j x hx => let ⟨u, hu, hr⟩ := h3 j x hx; ⟨u, hu, hr.below hb⟩⟩, h4⟩
theorem eqHash (a b : List Nat) (ha : a.length = 32) (hb : b.length = 32) (w : World) : (binOp .eql 27 (.agg (u8s a).toArray) (.agg (u8s b).toArray)).run Try.prog w = .ok (.bool (decide (a = b))) w := by
  obtain ⟨ie, hi, _⟩ := info_parts (P := Try.prog) (e := 5) (z := .int .u8 0) (size := 1) (bytes := 1) (by kernel_rfl)
  exact run_eql_hash (n := 32) (by kernel_rfl) hi (by kernel_rfl) (by kernel_rfl) a b ha hb w
theorem eqHash_same (a : List Nat) (ha : a.length = 32) (w : World) : (binOp .eql 27 (.agg (u8s a).toArray) (.agg (u8s a).toArray)).run Try.prog w = .ok (.bool true) w := by
  rw [eqHash a a ha ha]; simp

set_option maxRecDepth 100000 in
set_option maxHeartbeats 1000000 in
theorem tells_walk (xss : List (List Nat)) (v : Value) (w : World) (hv : Parts w v xss) (hn : xss.length ≤ 5864062014634) (hl : ∀ x ∈ xss, x.length ≤ 140737488351232) :
    Calls Try.prog 3 #[v] w fun e w' => e = .returned (.bool true) ∧ Qt w w' := by
  have HG := Lib.hid (great_any xss v w hv hn hl)
  have HV := Lib.hid hv
  clear hv hn hl
  go_enter Try.func3, Try.ntmps3
  go_wp2_with fail
  refine HG.out.mono ?_
  rintro e w1 ⟨b, rfl, hb, rfl⟩
  have HB := Lib.hid hb
  clear hb HG
  cases b with
  | true =>
    go_wp2_with (go_at_call 8; refine (awake_any _).mono ?_; rintro e w2 ⟨rfl, q⟩; (have Q := Lib.hid q); clear q)
    go_ret
    exact ⟨rfl, Q.out⟩
  | false =>
    have hb := HB.out rfl
    have hl : ∀ x ∈ xss, x.length ≤ 3000 := fun x hx => by
      have := (List.sublist_flatten_of_mem hx).length_le
      omega
    have HL := Lib.hid hl
    clear hl
    go_wp2_with fail
    refine (lentRows_any xss v w HV.out (by omega) (fun x hx => Nat.le_trans (HL.out x hx) (by omega))).mono ?_
    rintro e w1 ⟨r, rfl, hr, q1⟩
    have HR := Lib.hid hr
    have Q1 := Lib.hid q1
    clear hr q1
    go_wp2_with fail
    refine (of_any xss r w1 HR.out.parts (by omega) (by omega)).mono ?_
    rintro e w2 ⟨rfl, q2⟩
    have Q2 := Lib.hid (Q1.out.trans q2)
    have HR2 := Lib.hid (HR.out.below q2)
    clear q2
    go_wp2_with fail
    refine (ofR_any xss v w2 (HV.out.below Q2.out) (by omega) (by omega)).mono ?_
    rintro e w3 ⟨rfl, q3⟩
    have Q3 := Lib.hid (Q2.out.trans q3)
    have HR3 := Lib.hid (HR2.out.below q3)
    clear q3
    have heq := eqHash_same (sha xss.flatten) (sha_len _)
    generalize sha xss.flatten = S at *
    go_wp2_with fail
    refine (keptRows_any xss (by omega) (fun x hx => Nat.le_trans (HL.out x hx) (by omega)) _ r v w3 HR3.out (HV.out.below Q3.out)).mono ?_
    rintro e w4 ⟨rfl, m, rfl⟩
    go_wp2_with (go_at_call 8; refine (awake_any _).mono ?_; rintro e w5 ⟨rfl, q⟩; (have Q := Lib.hid q); clear q)
    go_ret
    exact ⟨rfl, (Q3.out.drewN m).trans Q.out⟩
end Go.Proofs.Ytjpimfbkdighfaa
