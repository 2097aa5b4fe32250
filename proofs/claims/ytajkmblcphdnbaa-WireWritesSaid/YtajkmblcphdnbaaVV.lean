import Derived.Test.YtajkmblcphdnbaaVU
/-! WireWrites: words. -/
namespace Go.Proofs.Ytajkmblcphdnbaa
open Go.RowKit
set_option linter.unusedVariables false
set_option linter.unusedSimpArgs false

/-- A writer of the program's and one of the reference's, that have put the same. -/
structure WW (W w : World) (a xa : Nat) (Sp Sx : Nat → Prop) (st : Option (List Nat)) : Prop where
  hp : WrX Sp w (.pointer (some ⟨a, 0, none⟩)) (.live a) st
  hx : WfA Sx w xa st
  dj : ∀ k, Sp k → ¬Sx k
  gp : ∀ k, Sp k → W.heap.size ≤ k
  gx : ∀ k, Sx k → W.heap.size ≤ k
  q : Qt W w
theorem WW.qt {W w w' : World} {a xa : Nat} {Sp Sx : Nat → Prop} {st : Option (List Nat)} (h : WW W w a xa Sp Sx st) (q : Qt w w') : WW W w' a xa Sp Sx st :=
  ⟨h.hp.qt q, h.hx.qt q, h.dj, h.gp, h.gx, h.q.trans q⟩
/-- Another block is turned. -/
theorem WW.gs {W w w' : World} {a xa : Nat} {Sp Sx R : Nat → Prop} {st : Option (List Nat)} (h : WW W w a xa Sp Sx st) (g : Gs R w w') (h1 : ∀ k, R k → ¬Sp k) (h2 : ∀ k, R k → ¬Sx k) (h3 : ∀ k, R k → W.heap.size ≤ k) : WW W w' a xa Sp Sx st :=
  ⟨h.hp.gs g (fun k hk hr => h1 k hr hk), h.hx.gs g (fun k hk hr => h2 k hr hk), h.dj, h.gp, h.gx, Gs.below h.q g h3⟩
theorem WW.lt {W w : World} {a xa : Nat} {Sp Sx : Nat → Prop} {st : Option (List Nat)} (h : WW W w a xa Sp Sx st) : (∀ k, Sp k → k < w.heap.size) ∧ ∀ k, Sx k → k < w.heap.size := ⟨h.hp.lt, h.hx.lt⟩
theorem WW.both {W w w1 w2 : World} {a xa : Nat} {Sp Sx : Nat → Prop} {st st' : Option (List Nat)} (h : WW W w a xa Sp Sx st) (h1 : WrX (Fr Sp w w1) w1 (.pointer (some ⟨a, 0, none⟩)) (.live a) st') (g1 : Gs Sp w w1) (h2 : WfA (Fr Sx w1 w2) w2 xa st') (g2 : Gs Sx w1 w2) :
    WW W w2 a xa (Fr Sp w w1) (Fr Sx w1 w2) st' := by
  have z1 := g1.size
  have hq1 : Qt W w1 := Gs.below h.q g1 h.gp
  have hd : ∀ k, Fr Sp w w1 k → ¬Sx k := by
    rintro k (hk | ⟨hk, _⟩) hs
    · exact h.dj k hk hs
    · have := h.lt.2 k hs; omega
  refine ⟨h1.gs g2 hd, h2, ?_, ?_, ?_, Gs.below hq1 g2 h.gx⟩
  · rintro k hk (hs | ⟨hs, _⟩)
    · exact hd k hk hs
    · have := h1.lt k hk; omega
  · rintro k (hk | ⟨hk, _⟩)
    · exact h.gp k hk
    · exact Nat.le_trans h.q.size hk
  · rintro k (hk | ⟨hk, _⟩)
    · exact h.gx k hk
    · exact Nat.le_trans hq1.size hk
theorem WW.mid {W w w1 : World} {a xa : Nat} {Sp Sx : Nat → Prop} {st : Option (List Nat)} (h : WW W w a xa Sp Sx st) (g1 : Gs Sp w w1) : WfA Sx w1 xa st := h.hx.gs g1 (fun k hk hs => h.dj k hs hk)
theorem lenO_map (st : Option (List Nat)) (b : List Nat) : lenO (st.map (· ++ b)) ≤ lenO st + b.length := by
  cases st with
  | none => exact Nat.zero_le _
  | some l => simp [lenO]
theorem putK_len (x : PutD) (hx : x.Ok) (st : Option (List Nat)) (k : Nat) : lenO (putK x st k) ≤ lenO st + 40 + x.b.length + x.s.length := by
  unfold putK
  split
  · have := lenO_wBel 1 x.n st; omega
  · have := lenO_wBel 2 x.n st; omega
  · have := lenO_wBel 4 x.n st; omega
  · have := lenO_map st (beB 8 x.u); rw [beB_len] at this; omega
  · have := lenO_map st (beB 8 x.u); rw [beB_len] at this; omega
  · have := lenO_map st x.h; rw [hx.h32] at this; omega
  · have := lenO_map st x.b; omega
  · have h1 := lenO_map (wBel 2 (x.s.length : Int) st) x.s
    have h2 := lenO_wBel 2 (x.s.length : Int) st
    omega
  · have := lenO_wBel 1 (if (x.n == 1) = true then 1 else 0) st; omega
  · split
    · exact Nat.zero_le _
    · omega
theorem putC_set (x : PutD) (bv bv2 : Value) (h : x.h.length = 32) : (putC x bv).set 35 bv2 = putC x bv2 := by
  unfold putC
  rw [List.set_append_right _ _ (by simp), List.set_append_right _ _ (by simp [u8s_len, h])]
  simp [u8s_len, h]
theorem putC_one (x : PutD) (a : Option Addr) (n c : Nat) : (putC x (.slice a n c)).toArray.all (·.oneCell') = true := by
  rw [List.all_toArray, List.all_eq_true]
  intro v hv
  unfold putC at hv
  rcases List.mem_append.1 hv with hv | hv
  · simp at hv; rcases hv with rfl | rfl | rfl <;> rfl
  · rcases List.mem_append.1 hv with hv | hv
    · exact u8s_one1 _ v hv
    · simp at hv; rcases hv with rfl | rfl <;> rfl
theorem putC_size (x : PutD) (bv : Value) (h : x.h.length = 32) : ((Try.prog).info? 39).map (·.size) = some (putC x bv).toArray.size := by
  rw [List.size_toArray, putC_len x bv h]; kernel_rfl
/-- A call of nothing: what a variable holds first. -/
def putZ : List Value := putC ⟨0, 0, 0, Z32, [], []⟩ (.slice none 0 0)
theorem newX_any (w : World) : WfA (fun k => k = w.heap.size) (w.alloc (.cells #[.slice none 0 0, .bool false] 45)) w.heap.size (some []) :=
  ⟨_, heap_alloc_new w _, ⟨OQ.nil _ _ _, rfl, (fun g hg => by cases hg), (fun k hk => by subst hk; simp), (fun x hx => by cases hx)⟩⟩
end Go.Proofs.Ytajkmblcphdnbaa
