import Derived.Test.YtipgpnkdgofdeaaTE
/-! How deep a branch is. -/
namespace Go.Proofs.Ytipgpnkdgofdeaa.Tm
open Go.RowKit
set_option linter.unusedVariables false
set_option linter.unusedSimpArgs false

mutual
def dep : Tr → Nat
  | .mk _ ks => deps ks + 1
def deps : List Tr → Nat
  | [] => 0
  | k :: r => max (dep k) (deps r)
end
theorem deps_app (a b : List Tr) : deps (a ++ b) = max (deps a) (deps b) := by
  induction a with
  | nil => simp [deps]
  | cons k a ih => simp only [List.cons_append, deps, ih]; omega
mutual
theorem dep_le : ∀ t : Tr, dep t ≤ t.flat.length
  | .mk n ks => by simp only [dep, Tr.flat, List.length_cons]; have := deps_le ks; omega
theorem deps_le : ∀ ks : List Tr, deps ks ≤ (flats ks).length
  | [] => by simp [deps]
  | k :: r => by simp only [deps, flats, List.length_append]; have := dep_le k; have := deps_le r; omega
end
theorem take_next {α : Type} {l : List α} {j : Nat} {x : α} (h : l[j]? = some x) : l.take (j + 1) = l.take j ++ [x] := by
  rw [List.take_add_one, h]; rfl

/-- What is read of a branch: its node, its kids, the nodes that it covers. -/
theorem Br.parts {w : World} {ok : Nat → Prop} {cs : List Value} {n : Nd} {ks : List Tr} (h : Br w ok cs (.mk n ks)) :
    ∃ (A : Option Addr) (c : Nat) (avA : Option Addr) (avc : Nat) (cf : Nat → List Value), cs = ndc n ++ [.slice A ks.length c, .slice avA (Tr.mk n ks).flat.length avc] ∧ cs.length = 7 ∧ (∀ u ∈ cs, u.oneCell' = true) ∧ cs[5]? = some (.slice A ks.length c) ∧ ks.length ≤ c ∧
      (∀ i k, ks[i]? = some k → ∃ b off, A = some ⟨b, off, none⟩ ∧ w.rangeAt b (off + i * 7) (cf i) ∧ Br w ok (cf i) k) ∧ Lies w ok (.slice avA (Tr.mk n ks).flat.length avc) (Tr.mk n ks).flat := by
  have h7 := h.len
  have h1 := h.one
  obtain ⟨A, c, av, cf, rfl, hc, hA, hb, ha⟩ := h.open'
  obtain ⟨avA, avc, rfl⟩ := ha.form
  refine ⟨A, c, avA, avc, cf, rfl, h7, h1, rfl, hc, fun i k hk => ?_, ha⟩
  obtain ⟨b, off, rfl, _, hx⟩ := hA (fun e => by rw [e] at hk; cases hk)
  exact ⟨b, off, rfl, fun j u hu => by rw [Nat.add_assoc]; exact hx i k hk j u hu, hb i k hk⟩

set_option maxRecDepth 100000 in
set_option maxHeartbeats 1000000 in
theorem deep_any : ∀ (N : Nat) (t : Tr) (cs : List Value) (ok : Nat → Prop) (w : World), t.flat.length ≤ N → t.flat.length ≤ 1000000 → Br w ok cs t →
    Calls Try.prog 45 #[.agg cs.toArray] w fun e w' => e = .returned (.int .i64 (dep t : Int)) ∧ Qt w w' := by
  intro N
  induction N with
  | zero => intro t cs ok w h; have := flat_pos t; omega
  | succ N ih =>
    intro t cs ok w hN hm hbr
    obtain ⟨n, ks⟩ := t
    obtain ⟨A, c, avA, avc, cf, hcs, h7, h1, h5, hc, hK, _⟩ := hbr.parts
    obtain ⟨gs, hgs⟩ : ∃ fs, Try.prog.underlying 60 = some (.struct fs) := ⟨_, Try.underlying60⟩
    have hd := deps_le ks
    have hlen : (Tr.mk n ks).flat.length = (flats ks).length + 1 := by simp [Tr.flat]
    have hkl := flats_len ks
    have hkn : ks.length ≤ 1000000 := by omega
    have hdn : deps ks ≤ 1000000 := by omega
    have c5 : (w.alloc (.cells cs.toArray 60)).cell? ⟨w.heap.size, 5, none⟩ = some (.slice A ks.length c) := by rw [World.cell?_alloc_new]; simpa using h5
    have hkid : ∀ k, k ∈ ks → k.flat.length ≤ N ∧ k.flat.length ≤ 1000000 := fun k hk => by have := kid_lt (n := n) hk; omega
    have HIH := Lib.hid ih
    have HKI := Lib.hid hK
    have HKD := Lib.hid hkid
    have HGS := Lib.hid hgs
    have HDN := Lib.hid hdn
    clear ih hbr hK hgs hN hm hlen hd hkid hcs h5 hkl
    go_enter Try.func45, Try.ntmps45
    go_wp2
    go_loopw [9, 3] (fun i d wr => ∃ j : Nat, j ≤ ks.length ∧ i = .int .i64 j ∧ d = .int .i64 (deps (ks.take j) : Int) ∧ Qt w wr) (fun i _ _ => ks.length - (intOf i).toNat)
    case atStart => exact ⟨0, by omega, rfl, rfl, (Qt.refl w).alloc _⟩
    case round =>
      obtain ⟨j, hj, rfl, rfl, hq⟩ := hrel
      have hdj : deps (ks.take j) ≤ 1000000 := by
        have e := deps_app (ks.take j) (ks.drop j)
        rw [List.take_append_drop] at e
        have := HDN.out; omega
      have HQ := Lib.hid hq
      clear hq c5
      by_cases hlt : j < ks.length
      · obtain ⟨k, hk⟩ : ∃ k, ks[j]? = some k := ⟨_, List.getElem?_eq_getElem hlt⟩
        obtain ⟨b, off, rfl, hr, hb⟩ := HKI.out j k hk
        have hkd := HKD.out k (List.mem_of_getElem? hk)
        have h7k := hb.len
        have HRG := Lib.hid (rangeQt hr HQ.out)
        have HBK := Lib.hid (hb.qt HQ.out)
        have HONE := Lib.hid hb.one
        have hdk : dep k ≤ 1000000 := by have := dep_le k; omega
        have HTK := Lib.hid (take_next hk)
        clear hr hb hk
        generalize cf j = ck at *
        go_wp2_with (first
          | (refine armLm rfl 60 (.tmp 11) rfl b (off + j * 7) rfl HRG.out (.struct gs) HGS.out rfl (by rw [h7k]; kernel_rfl) ?_)
          | (refine armSt rfl 60 (.tmp 5) (.tmp 12) rfl wr.heap.size ck rfl rfl (t := 60) (old := zBr) (heap_alloc_new wr _) (by rw [h7k]; kernel_rfl) (by rw [h7k]; rfl) HONE.out ?_; intro w3 og3 hz3 hb3; (have hq3 : Qt wr w3 := og3.qt ((Qt.refl wr).alloc _) (Nat.le_refl _)); (have HB3 := Lib.hid hb3); (have HQ3 := Lib.hid hq3); (have HC := Lib.hid (HIH.out k ck ok w3 hkd.1 hkd.2 (HBK.out.qt hq3))); clear og3 hb3 hq3)
          | (refine armLd rfl 60 (.tmp 5) rfl wr.heap.size rfl HB3.out (.struct gs) HGS.out rfl (by rw [h7k]; kernel_rfl) ?_)
          | (go_at_call 45; refine HC.out.mono ?_; rintro e w4 ⟨rfl, q4⟩; (have HQ4 := Lib.hid q4); clear q4))
        refine ⟨⟨j + 1, by omega, by go_num, ?_, (HQ.out.trans HQ3.out).trans HQ4.out⟩, by simp [intOf]; omega⟩
        rw [HTK.out, deps_app]
        have e : deps [k] = dep k := by simp [deps]
        rw [e]
        congr 1
        split <;> omega
      · obtain rfl : j = ks.length := by omega
        rw [List.take_length] at hdj ⊢
        go_wp2
        go_ret
        exact ⟨by rw [dep]; first | rfl | simp, HQ.out⟩
end Go.Proofs.Ytipgpnkdgofdeaa.Tm
