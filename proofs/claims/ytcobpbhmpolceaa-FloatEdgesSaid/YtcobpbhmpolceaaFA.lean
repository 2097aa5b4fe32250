import Derived.Test.YtcobpbhmpolceaaRows
import Derived.WalkKit
import Derived.WalkLawsBesides
import Derived.WalkSpells
import Derived.Below
import Derived.Defers
import Derived.Recover
import Derived.Deep.QuietTactic
import Derived.BigQuiet
import Derived.Laws.Cover2
import Derived.KernelRfl
import Derived.Lib.Hide
namespace Go.Proofs.Ytcobpbhmpolceaa
open Go.RowKit

/-- Nothing that was there has turned. -/
def Qt (w w' : World) : Prop := Below w.heap.size w w'
theorem Qt.refl (w : World) : Qt w w := Below.refl _ _
theorem Qt.trans {a b c : World} (h : Qt a b) (k : Qt b c) : Qt a c := Below.trans h (Below.mono k h.size)

@[go_sem] theorem fb_run (n : Int) (w : World) : (callFunc 36 #[.int .u64 n]).run Try.prog w = .ok (.value (.float .f64 n.toNat)) w := by kernel_rfl
@[go_sem] theorem tb_run (n : Nat) (w : World) : (callFunc 63 #[.float .f64 n]).run Try.prog w = .ok (.value (.int .u64 n)) w := by kernel_rfl

/-- A number's bits, every NaN as one. -/
def fbits (b : Nat) : Int := if FloatKind.f64.format.order b b = some .eq then (b : Int) else 9221120237041090560

theorem bits_any (b : Nat) (w : World) : Calls Try.prog 38 #[.float .f64 b] w fun e w' => e = .returned (.int .u64 (fbits b)) ∧ w = w' := by
  by_cases h : FloatKind.f64.format.order b b = some .eq
  · have hb : (FloatKind.f64.format.order b b != some .eq) = false := by simp [h]
    go_enter Try.func38, Try.ntmps38
    go_wp2
    go_ret
    exact ⟨by rw [fbits, if_pos h]; rfl, rfl⟩
  · have hb : (FloatKind.f64.format.order b b != some .eq) = true := by simp [h]
    go_enter Try.func38, Try.ntmps38
    go_wp2
    go_ret
    exact ⟨by rw [fbits, if_neg h]; rfl, rfl⟩

theorem info38 : (Try.prog.info? 38).map (fun i => (i.zero, i.size, i.bytes)) = some (some (.float .f64 0), 1, 8) := by kernel_rfl

theorem own_base {w : World} {base : Nat} {e : TypeId} {size : Nat} {v : Value} {n : Nat} {xs : List Value} (h : w.ownsRow base e size v n xs) {B : Nat} (hB : B ≤ base) : ∀ k, v.ownBlock = some k → B ≤ k := by
  intro k hk
  rcases h.2 with ⟨rfl, _⟩ | ⟨g, cap, cur, rfl, hg, _⟩
  · cases hk
  · simp [Value.ownBlock] at hk; omega
theorem own_cells {w : World} {base : Nat} {e : TypeId} {v : Value} {n : Nat} {xs : List Value} (h : w.ownsRow base e 1 v n xs) (hn : 0 < n) :
    ∃ g cap, v = .slice (some ⟨g, 0, none⟩) n cap ∧ base ≤ g ∧ ∀ j, j < n → w.cell? ⟨g, j, none⟩ = xs[j]? := by
  obtain ⟨hl, ⟨rfl, rfl⟩ | ⟨g, cap, cur, rfl, hg, hh, hn', hm, hs, ht⟩⟩ := h
  · omega
  · refine ⟨g, cap, rfl, hg, fun j hj => ?_⟩
    subst ht
    simp [World.cell?, hh, hj]

/-- What a closure over a row of floats tells: X, as bits. -/
def Clo (k : FuncId) (xs : List Int) (X : Int) : Prop := ∀ (g cap : Nat) (w1 : World),
  (∀ j, j < xs.length → w1.cell? ⟨g, j, none⟩ = some (.float .f64 (xs.getD j 0).toNat)) →
  Calls Try.prog k #[.slice (some ⟨g, 0, none⟩) xs.length cap] w1 fun e w2 => ∃ r : Nat, e = .returned (.float .f64 r) ∧ fbits r = X ∧ Qt w1 w2

theorem of_any (k : FuncId) (hk : ∀ args w, (callFunc k args).run Try.prog w = .ok (.enter k args) w) (xs : List Int) (X : Int) (hcl : Clo k xs X) (h0 : 0 < xs.length) (h2 : xs.length ≤ 2) (b : Nat) (w : World) (hb : b < w.heap.size)
    (hc : ∀ j, j < xs.length → w.cell? ⟨b, j, none⟩ = some (.int .u64 (xs.getD j 0))) (cap : Nat) :
    Calls Try.prog 39 #[.func (.func k) #[] #[], .slice (some ⟨b, 0, none⟩) xs.length cap] w fun e w' => e = .returned (.int .u64 X) ∧ Qt w w' := by
  obtain ⟨i0, hi, hz0, hz1, hz2⟩ := info_parts info38
  have HK := Lib.hid hk; clear hk
  have HC := Lib.hid hc; clear hc
  go_enter Try.func39, Try.ntmps39
  go_wp2
  go_loopw [5, 10] (fun v i wr => ∃ k : Nat, k ≤ xs.length ∧ i = .int .i64 k ∧ wr.ownsRow w.heap.size 38 1 v k ((xs.map fun x => Value.float .f64 x.toNat).take k) ∧ Below w.heap.size w wr) (fun _ i _ => xs.length - (intOf i).toNat)
  case atStart => exact ⟨0, Nat.zero_le _, rfl, World.ownsRow_nil _ _ _ _, Below.refl _ _⟩
  case round =>
    obtain ⟨k, hk', rfl, hown, hbel⟩ := hrel
    by_cases hlt : k < xs.length
    · have hcx : wr.cell? ⟨b, k, none⟩ = some (.int .u64 (xs.getD k 0)) := (hbel.cell hb).trans (HC.out k hlt)
      simp only [List.getD_eq_getElem?_getD] at hcx
      go_wp2_with (at_builtin; refine wpList_append_own _ rfl _ _ 43 rfl w.heap.size 38 i0 (.float .f64 0) 1 8 Try.underlying43 hi hz0 hz1 hz2 rfl (by decide) _ _ _ rfl (hown.alloc _) ⟨wr.heap.size, 0, none⟩ 1 1 [.float .f64 xs[k].toNat] rfl rfl ?c1 ?c2 ?c3 ?c4 ?c5 ?_)
      case c1 =>
        intro j u hj
        match j, hj with
        | 0, hj => simp at hj; subst hj; simp [Addr.add]
      case c2 => intro u hu; simp at hu; subst hu; rfl
      case c3 => unfold maxLen; omega
      case c4 => omega
      case c5 => have := hbel.size; simp; omega
      intro v' w1 hown' hgrow _
      have hb1 : Below w.heap.size w w1 := (hbel.alloc hbel.size _).grown hgrow (by have := hbel.size; simp; omega) (own_base hown (by omega))
      have hown2 : w1.ownsRow w.heap.size 38 1 v' (k + 1) ((xs.map fun x => Value.float .f64 x.toNat).take (k + 1)) := by
        rw [List.take_succ_eq_append_getElem (by simpa using hlt)]; simpa using hown'
      clear hown' hgrow hown hcx
      go_wp2
      go_roundw
      case rel => exact ⟨k + 1, by omega, by go_num, hown2, hb1⟩
      case measure => simp [intOf]; omega
    · obtain rfl : k = xs.length := by omega
      rw [List.take_of_length_le (by simp)] at hown
      obtain ⟨g, cap', hv, hg, hcell⟩ := own_cells hown h0
      subst hv
      have hcell' : ∀ j, j < xs.length → wr.cell? ⟨g, j, none⟩ = some (.float .f64 (xs.getD j 0).toNat) := fun j hj => by rw [hcell j hj]; simp [hj]
      have HX := Lib.hid hcell'; clear hcell hcell' hown
      go_wp2_with fail
      have HK2 := HK.out
      go_simp
      refine (hcl g cap' wr HX.out).mono ?_
      rintro e w1 ⟨r, rfl, hr, hq⟩
      have HR := Lib.hid hr; clear hr
      go_wp2_with (go_at_call 38; refine (bits_any _ _).mono ?_; rintro e w' ⟨rfl, rfl⟩)
      go_ret
      exact ⟨by rw [← HR.out]; rfl, Below.trans hbel (Below.mono hq hbel.size)⟩

end Go.Proofs.Ytcobpbhmpolceaa
