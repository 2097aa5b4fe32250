import Derived.Test.YtjpimfbkdighfaaSA
import Derived.Laws.CopyOwn
import Derived.Deep.RegionLaw
namespace Go.Proofs.Ytjpimfbkdighfaa
open Go.RowKit

/-- One round. -/
def rT (kk ww e f g h : Nat) : Nat := ((((h + trn e [6, 11, 25]) % 4294967296 + ((e &&& f) ^^^ ((4294967295 ^^^ e) &&& g))) % 4294967296 + kk) % 4294967296 + ww) % 4294967296
def rU (a b c : Nat) : Nat := (trn a [2, 13, 22] + (((a &&& b) ^^^ (a &&& c)) ^^^ (b &&& c))) % 4294967296
def rnd (kk ww : Nat) : List Nat → List Nat
  | [a, b, c, d, e, f, g, h] => [(rT kk ww e f g h + rU a b c) % 4294967296, a, b, c, (d + rT kk ww e f g h) % 4294967296, e, f, g]
  | _ => []
def rounds (W K v0 : List Nat) : Nat → List Nat
  | 0 => v0
  | k + 1 => rnd (K.getD k 0) (W.getD k 0) (rounds W K v0 k)
def addH (H v : List Nat) (k : Nat) : List Nat := (List.range 8).map fun j => if j < k then (H.getD j 0 + v.getD j 0) % 4294967296 else H.getD j 0
def rowH (K H b : List Nat) : List Nat := addH H (rounds (wsTo b 64) K H 64) 8

theorem len8 {l : List Nat} (h : l.length = 8) : ∃ a b c d e f g i, l = [a, b, c, d, e, f, g, i] := by
  match l, h with
  | [a, b, c, d, e, f, g, i], _ => exact ⟨a, b, c, d, e, f, g, i, rfl⟩

theorem rounds_ok (W K v0 : List Nat) (h8 : v0.length = 8) (hb : ∀ x ∈ v0, x < 4294967296) (k : Nat) : (rounds W K v0 k).length = 8 ∧ ∀ x ∈ rounds W K v0 k, x < 4294967296 := by
  induction k with
  | zero => exact ⟨h8, hb⟩
  | succ k ih =>
    obtain ⟨h1, h2⟩ := ih
    rw [rounds]
    obtain ⟨a, b, c, d, e, f, g, i, hl⟩ := len8 h1
    rw [hl] at h2 ⊢
    refine ⟨rfl, ?_⟩
    simp only [rnd, List.mem_cons, List.not_mem_nil, or_false, forall_eq_or_imp, forall_eq] at h2 ⊢
    refine ⟨Nat.mod_lt _ (by decide), h2.1, h2.2.1, h2.2.2.1, Nat.mod_lt _ (by decide), h2.2.2.2.2.1, h2.2.2.2.2.2.1, h2.2.2.2.2.2.2.1⟩

theorem addH_len (H v : List Nat) (k : Nat) : (addH H v k).length = 8 := by simp [addH]
theorem addH_zero {H : List Nat} (h : H.length = 8) (v : List Nat) : addH H v 0 = H := by
  obtain ⟨a, b, c, d, e, f, g, i, rfl⟩ := len8 h
  rfl
theorem addH_get (H v : List Nat) (k : Nat) {j : Nat} (hj : j < 8) : (addH H v k)[j]? = some (if j < k then (H.getD j 0 + v.getD j 0) % 4294967296 else H.getD j 0) := by simp [addH, hj]
theorem addH_step (H v : List Nat) {k : Nat} (hk : k < 8) : (addH H v k).set k ((H.getD k 0 + v.getD k 0) % 4294967296) = addH H v (k + 1) := by
  apply List.ext_getElem?
  intro j
  by_cases hj : j < 8
  · rw [List.getElem?_set, addH_get _ _ _ hj, addH_get _ _ _ hj, addH_len]
    by_cases e : k = j
    · subst e; rw [if_pos rfl, if_pos hk, if_pos (by omega)]
    · rw [if_neg e]
      by_cases h2 : j < k
      · rw [if_pos h2, if_pos (by omega)]
      · rw [if_neg h2, if_neg (by omega)]
  · rw [List.getElem?_eq_none (by simp [addH_len]; omega), List.getElem?_eq_none (by simp [addH_len]; omega)]

theorem app_get {l r : List Value} {j : Nat} {v : Value} (h : l[j]? = some v) : (l ++ r)[j]? = some v := by
  have := (List.getElem?_eq_some_iff.1 h).1
  rw [List.getElem?_append_left this]; exact h
theorem rT_int {kk ww e f g h : Nat} (he : e < 4294967296) (hf : f < 4294967296) (hg : g < 4294967296) :
    IntKind.u32.wrap (IntKind.u32.wrap (IntKind.u32.wrap (IntKind.u32.wrap ((h : Int) + (trn e [6, 11, 25] : Nat)) + bits .xor .u32 (bits .and .u32 (e : Int) (f : Int)) (bits .and .u32 (bits .xor .u32 IntKind.u32.max (e : Int)) (g : Int))) + (kk : Int)) + (ww : Int)) = (rT kk ww e f g h : Nat) := by
  have hm : (4294967295 : Nat) < 4294967296 := by decide
  rw [show IntKind.u32.max = ((4294967295 : Nat) : Int) from rfl, u32_and_nat _ _ he hf, u32_xor_nat _ _ hm he, u32_and_nat _ _ (xor_lt hm he) hg, u32_xor_nat _ _ (and_lt he) (and_lt (xor_lt hm he))]
  simp only [IntKind.wrap_u32]
  unfold rT
  omega
theorem rU_int {a b c : Nat} (ha : a < 4294967296) (hb : b < 4294967296) (hc : c < 4294967296) :
    IntKind.u32.wrap ((trn a [2, 13, 22] : Nat) + bits .xor .u32 (bits .xor .u32 (bits .and .u32 (a : Int) (b : Int)) (bits .and .u32 (a : Int) (c : Int))) (bits .and .u32 (b : Int) (c : Int))) = (rU a b c : Nat) := by
  rw [u32_and_nat _ _ ha hb, u32_and_nat _ _ ha hc, u32_and_nat _ _ hb hc, u32_xor_nat _ _ (and_lt ha) (and_lt ha), u32_xor_nat _ _ (xor_lt (and_lt ha) (and_lt ha)) (and_lt hb)]
  simp only [IntKind.wrap_u32]
  unfold rU
  omega

/-- The call's own block N, and a block G of the caller's. -/
structure Own2 (w : World) (N : Nat) (tN : TypeId) (csN : List Value) (G : Nat) (tG : TypeId) (csG : List Value) (w' : World) : Prop where
  blkN : w'.heap[N]? = some (.cells csN.toArray tN (0, 0))
  blkG : w'.heap[G]? = some (.cells csG.toArray tG (0, 0))
  grown : w.grownBy w' (some G)
theorem Own2.cellN {w w' : World} {N G tN tG : Nat} {csN csG : List Value} (h : Own2 w N tN csN G tG csG w') {j : Nat} {x : Value} (hx : csN[j]? = some x) : w'.cell? ⟨N, j, none⟩ = some x := by rw [cell_blk h.blkN]; exact hx
theorem Own2.cellG {w w' : World} {N G tN tG : Nat} {csN csG : List Value} (h : Own2 w N tN csN G tG csG w') {j : Nat} {x : Value} (hx : csG[j]? = some x) : w'.cell? ⟨G, j, none⟩ = some x := by rw [cell_blk h.blkG]; exact hx
theorem Own2.frozenG {w w' : World} {N G tN tG : Nat} {csN csG : List Value} (h : Own2 w N tN csN G tG csG w') (j : Nat) : w'.frozen? ⟨G, j, none⟩ = false := frozen_blk h.blkG j
theorem Own2.drew {w w' : World} {N G tN tG : Nat} {csN csG : List Value} (h : Own2 w N tN csN G tG csG w') : Own2 w N tN csN G tG csG w'.drew := ⟨h.blkN, h.blkG, ⟨h.grown.os, h.grown.tape, h.grown.output, h.grown.size, h.grown.block⟩⟩
theorem Own2.setG {w w' : World} {N G tN tG : Nat} {csN csG : List Value} (h : Own2 w N tN csN G tG csG w') (hNG : N ≠ G) (j : Nat) (u : Value) : Own2 w N tN csN G tG (csG.set j u) (w'.setCell ⟨G, j, none⟩ u) :=
  ⟨(Below.heap_setCell _ _ _ _ (fun e => hNG e)).trans h.blkN, set_blk h.blkG j u, ⟨h.grown.os, h.grown.tape, h.grown.output, by simpa [World.setCell] using h.grown.size, fun k hk hr => (Below.heap_setCell _ _ _ _ (fun e => hr (by rw [e]))).trans (h.grown.block k hk hr)⟩⟩

theorem set_map_app {l : List Nat} {r : List Value} {k x : Nat} (h : k < l.length) : (l.map u32v ++ r).set k (u32v x) = (l.set k x).map u32v ++ r := by
  rw [List.set_append_left _ _ (by simpa using h), List.map_set]
theorem agg_index {cs : Array Value} {k : Nat} {v : Value} (hk : k < 64) (hv : cs[k]? = some v) (w : World) :
    (Instr.index 50 (.agg cs) (.int .i64 (k : Int))).run Try.prog w = .ok v w := by
  have hu : Try.prog.underlying 50 = some (.array 64 46) := by kernel_rfl
  have hs : (sizeOf 46).run Try.prog w = .ok 1 w := by kernel_rfl
  have ha : (isAgg 46).run Try.prog w = .ok false w := by kernel_rfl
  have hc : (0 : Int) ≤ (k : Int) ∧ (k : Int) < (64 : Nat) := by omega
  have hp : (part 46 cs k).run Try.prog w = .ok v w := by simp [part, Sem.run_bind, ha, hv]
  simp only [Instr.index, asIntOf, Sem.run_bind, Sem.run_pure, Result.andThen_ok, run_underlying hu w, if_pos hc, hs, Int.toNat_natCast, Nat.mul_one, hp]

set_option maxRecDepth 100000 in
set_option maxHeartbeats 4000000 in
theorem row_any (H K b : List Nat) (rest : List Value) (hH : H.length = 8) (hHb : ∀ x ∈ H, x < 4294967296) (hK : K.length = 64) (hKb : ∀ x ∈ K, x < 4294967296)
    (hb : ∀ x ∈ b, x < 256) (hl : b.length = 64) (v : Value) (w : World) (G : Nat) (t : TypeId) (hG : w.heap[G]? = some (.cells (H.map u32v ++ (K.map u32v ++ rest)).toArray t (0, 0))) (hv : Rd w v 64 (u8s b)) :
    Calls Try.prog 33 #[.pointer (some ⟨G, 0, none⟩), .pointer (some ⟨G, 8, none⟩), v] w fun e w' =>
      e = .returned (.tuple #[]) ∧ w.grownBy w' (some G) ∧ w'.heap[G]? = some (.cells ((rowH K H b).map u32v ++ (K.map u32v ++ rest)).toArray t (0, 0)) := by
  have hGs : G < w.heap.size := heap_lt hG
  have hS := spread_any b hb hl v
  have hWl := wsTo_len b 64
  have hWb := wsTo_getD_lt b hb 64
  obtain ⟨R, hR⟩ : ∃ R, R = rowH K H b := ⟨_, rfl⟩
  rw [← hR]
  unfold rowH at hR
  generalize wsTo b 64 = W at *
  have HR0 := Lib.hid hR; clear hR
  have HWL := Lib.hid hWl; clear hWl
  have HWB := Lib.hid hWb; clear hWb
  have HG := Lib.hid hG; clear hG
  have HV := Lib.hid hv; clear hv
  have HH := Lib.hid hH; clear hH
  have HHB := Lib.hid hHb; clear hHb
  have HKL := Lib.hid hK; clear hK
  have HKB := Lib.hid hKb; clear hKb
  have HS := Lib.hid hS; clear hS
  have hr : w.rangeAt G 0 (H.map u32v) := fun j u hu => by
    rw [Nat.zero_add, cell_of_row w G j _ _ _ HG.out]
    have : j < (H.map u32v).length := (List.getElem?_eq_some_iff.1 hu).1
    simpa [List.getElem?_append_left this] using hu
  have HR := Lib.hid hr; clear hr
  have hi : ((Try.prog).info? 48).map (·.size) = some (H.map u32v).length := by rw [List.length_map, HH.out]; kernel_rfl
  have HI := Lib.hid hi; clear hi
  have hi2 : ((Try.prog).info? 48).map (·.size) = some (H.map u32v).toArray.size := by rw [List.size_toArray]; exact HI.out
  have HI2 := Lib.hid hi2; clear hi2
  have hz : 8 = (H.map u32v).toArray.size := by rw [List.size_toArray, List.length_map, HH.out]
  have HZ := Lib.hid hz; clear hz
  have ho : (H.map u32v).toArray.all (·.oneCell') = true := all_oneCell_toArray (fun v hv => by obtain ⟨j, _, rfl⟩ := List.mem_map.1 hv; rfl)
  have HO := Lib.hid ho; clear ho
  go_enter Try.func33, Try.ntmps33
  go_wp2_with (first
    | (refine wpList_load_mid rfl 48 (.tmp 15) rfl G 0 rfl (H.map u32v) (.array 8 46) HR.out (by kernel_rfl) rfl HI.out ?_)
    | (refine wpList_store_row rfl 48 (.tmp 6) (.tmp 16) rfl w.heap.size (H.map u32v).toArray rfl rfl 48 _ (heap_alloc_new w _) HI2.out HZ.out HO.out ?_))
  have hO : Own1 w w.heap.size 48 (H.map u32v) ((w.alloc (.cells #[.int .u32 0, .int .u32 0, .int .u32 0, .int .u32 0, .int .u32 0, .int .u32 0, .int .u32 0, .int .u32 0] 48)).setRow w.heap.size (H.map u32v).toArray) :=
    ⟨setRow_heap _ _ _ _ _ _ (heap_alloc_new w _), below_setRow ((Below.refl _ _).alloc (Nat.le_refl _) _) (Nat.le_refl _) _⟩
  refine (HS.out _ (HV.out.below hO.bel)).mono ?_
  rintro e w1 ⟨rfl, q⟩
  have hO1 : Own1 w w.heap.size 48 (H.map u32v) w1 := ⟨(q.block _ (heap_lt hO.blk)).trans hO.blk, hO.bel.trans (q.mono hO.bel.size)⟩
  have HO1 := Lib.hid hO1
  clear hO hO1 q HR HI HI2 HZ HO
  have hW : ∀ k, k < 64 → (W.map u32v).toArray[k]? = some (.int .u32 (W.getD k 0 : Nat)) := by
    intro k hk
    have := HWL.out
    rw [List.getElem?_toArray, List.getElem?_map, List.getD_eq_getElem?_getD, List.getElem?_eq_getElem (by omega)]; rfl
  generalize (W.map u32v).toArray = WA at *
  have HW := Lib.hid hW; clear hW
  go_wp2_with fail
  go_loopw [19] (fun i wr => ∃ k : Nat, k ≤ 64 ∧ i = .int .i64 k ∧ Own1 w w.heap.size 48 ((rounds W K H k).map u32v) wr) (fun i _ => 64 - (intOf i).toNat)
  case atStart => exact ⟨0, by omega, rfl, HO1.out⟩
  case round =>
    obtain ⟨k, hk, rfl, hO⟩ := hrel
    have HO := Lib.hid hO; clear hO
    by_cases h64 : k < 64
    · obtain ⟨h8, hB⟩ := rounds_ok W K H HH.out HHB.out k
      obtain ⟨a, bb, c, d, e, f, g, hh, hl8⟩ := len8 h8
      have hstep : rounds W K H (k + 1) = rnd (K.getD k 0) (W.getD k 0) [a, bb, c, d, e, f, g, hh] := by rw [rounds, hl8]
      have hw := agg_index h64 (HW.out k h64)
      have hwl := HWB.out k
      have hkl : K.getD k 0 < 4294967296 := by
        rw [List.getD_eq_getElem?_getD, List.getElem?_eq_getElem (by rw [HKL.out]; exact h64)]; exact HKB.out _ (List.getElem_mem _)
      have hO := HO.out
      rw [hl8] at hO
      rw [hl8] at hB
      obtain ⟨l0, l1, l2, l3, l4, l5, l6, l7, -⟩ : a < 4294967296 ∧ bb < 4294967296 ∧ c < 4294967296 ∧ d < 4294967296 ∧ e < 4294967296 ∧ f < 4294967296 ∧ g < 4294967296 ∧ hh < 4294967296 ∧ True := by simpa using hB
      clear hB h8 HO
      have HL8 := Lib.hid hl8; clear hl8
      have HO := Lib.hid hO; clear hO
      have cs : ∀ j x, ([a, bb, c, d, e, f, g, hh].map u32v)[j]? = some x → wr.cell? ⟨w.heap.size, j, none⟩ = some x := fun j x hx => by rw [cell_blk HO.out.blk]; exact hx
      have s0 := cs 0 (.int .u32 (a : Nat)) rfl
      have s1 := cs 1 (.int .u32 (bb : Nat)) rfl
      have s2 := cs 2 (.int .u32 (c : Nat)) rfl
      have s4 := cs 4 (.int .u32 (e : Nat)) rfl
      have s5 := cs 5 (.int .u32 (f : Nat)) rfl
      have s6 := cs 6 (.int .u32 (g : Nat)) rfl
      have s7 := cs 7 (.int .u32 (hh : Nat)) rfl
      have sk : wr.cell? ⟨G, 8 + k, none⟩ = some (.int .u32 (K.getD k 0 : Nat)) := by
        have : w.cell? ⟨G, 8 + k, none⟩ = some (.int .u32 (K.getD k 0 : Nat)) := by
          rw [cell_of_row w G (8 + k) _ _ _ HG.out]
          have e1 := HH.out
          have e2 := HKL.out
          rw [List.getElem?_toArray, List.getElem?_append_right (by simp; omega), List.getElem?_append_left (by simp; omega), List.length_map, e1, List.getElem?_map, show 8 + k - 8 = k from by omega, List.getD_eq_getElem?_getD, List.getElem?_eq_getElem (by omega)]; rfl
        exact (HO.out.bel.cell (p := ⟨G, 8 + k, none⟩) hGs).trans this
      clear cs
      have HSTEP := Lib.hid hstep; clear hstep
      generalize W.getD k 0 = ww at *
      generalize K.getD k 0 = kk at *
      have hsz : w.heap.size < wr.heap.size := blk_of_cell s0
      have hGr : G < wr.heap.size := blk_of_cell sk
      have T1 := turned_any e [6, 11, 25] l4 (by decide) (by decide)
      have T2 := turned_any a [2, 13, 22] l0 (by decide) (by decide)
      have HT1 := Lib.hid T1
      have HT2 := Lib.hid T2
      clear T1 T2
      go_wp2_with fail
      go_quiet (fail)
      go_wp2_with fail
      go_region_held3 (fun w' => w'.cell? ⟨w.heap.size, 5, none⟩ = some (.int .u32 (f : Nat)) ∧ w'.cell? ⟨w.heap.size, 6, none⟩ = some (.int .u32 (g : Nat)) ∧ w'.cell? ⟨w.heap.size, 7, none⟩ = some (.int .u32 (hh : Nat)) ∧ w'.cell? ⟨G, 8 + k, none⟩ = some (.int .u32 (kk : Nat)))
        (first | exact ⟨s5, s6, s7, sk⟩ | exact ⟨(cell_alE (by simp; omega) _).trans s5, (cell_alE (by simp; omega) _).trans s6, (cell_alE (by simp; omega) _).trans s7, (cell_alE (by simp; omega) _).trans sk⟩)
        ((go_at_call_of 41 (Value.int .u32 (e : Int)); refine (HT1.out _ _ (by first | exact rd3_new (by simp) 6 11 25)).mono ?_; rintro e w' ⟨rfl, rfl⟩))
      go_wp2_with fail
      go_region_held3 (fun w' => w'.cell? ⟨w.heap.size, 1, none⟩ = some (.int .u32 (bb : Nat)) ∧ w'.cell? ⟨w.heap.size, 2, none⟩ = some (.int .u32 (c : Nat)))
        (first | exact ⟨((cell_alE (by simp; omega) _).trans s1), ((cell_alE (by simp; omega) _).trans s2)⟩ | exact ⟨((cell_alE (by simp; omega) _).trans ((cell_alE (by simp; omega) _).trans s1)), ((cell_alE (by simp; omega) _).trans ((cell_alE (by simp; omega) _).trans s2))⟩)
        ((go_at_call_of 41 (Value.int .u32 (a : Int)); refine (HT2.out _ _ (by first | exact rd3_new (by simp) 2 13 22)).mono ?_; rintro e w' ⟨rfl, rfl⟩))
      go_wp2_with fail
      have ET := rT_int (kk := kk) (ww := ww) (h := hh) l4 l5 l6
      have EU := rU_int l0 l1 l2
      have LT : rT kk ww e f g hh < 4294967296 := Nat.mod_lt _ (by decide)
      have LU : rU a bb c < 4294967296 := Nat.mod_lt _ (by decide)
      rw [ET, EU]
      clear ET EU
      have hR2 : rounds W K H (k + 1) = [(rT kk ww e f g hh + rU a bb c) % 4294967296, a, bb, c, (d + rT kk ww e f g hh) % 4294967296, e, f, g] := HSTEP.out
      generalize rT kk ww e f g hh = T at *
      generalize rU a bb c = U at *
      have HR2 := Lib.hid hR2; clear hR2
      have hO6 : ∀ n o1 o2, Own1 w w.heap.size 48 ([a, bb, c, d, e, f, g, hh].map u32v) (((wr.drewN n).alloc o1).alloc o2).drew.drew := fun n o1 o2 => (((HO.out.drewN n).al o1).al o2).drew.drew
      have HO6 := Lib.hid hO6; clear hO6
      clear HT1 HT2
      go_region_law ((refine step_copy_splice rfl (.tmp 71) (.tmp 72) 57 57 rfl 46 (by kernel_rfl) (by kernel_rfl) _ _ _ _ _ _ rfl rfl w.heap.size 1 ([a, bb, c, d, e, f, g, hh].map u32v) 48 (HO6.out _ _ _).blk ([a, bb, c, d, e, f, g].map u32v) rfl (fun _ => ⟨rfl, ⟨w.heap.size, 0, none⟩, rfl, fun j v hv => by rw [Addr.add_mid, Nat.zero_add, cell_blk (HO6.out _ _ _).blk]; exact app_get (r := [u32v hh]) hv⟩) (Nat.le_refl 8) (fun v hv => by obtain ⟨j, _, rfl⟩ := List.mem_map.1 hv; rfl) w.heap.size w (HO6.out _ _ _).bel (Nat.le_refl _) ?_; intro w4 hg4 hb4))
      have hO7 : Own1 w w.heap.size 48 ([a, a, bb, c, d, e, f, g].map u32v) w4 := ⟨hg4.out, hb4⟩
      have HO7 := Lib.hid hO7
      clear hg4 hb4 hO7 s0 s1 s2 s4 s5 s6 s7 sk
      have cs : ∀ j x, ([a, a, bb, c, d, e, f, g].map u32v)[j]? = some x → w4.cell? ⟨w.heap.size, j, none⟩ = some x := fun j x hx => by rw [cell_blk HO7.out.blk]; exact hx
      have s0 := cs 0 (.int .u32 (a : Nat)) rfl
      have s4 := cs 4 (.int .u32 (d : Nat)) rfl
      have f0 : w4.frozen? ⟨w.heap.size, 0, none⟩ = false := frozen_blk HO7.out.blk _
      have f4 : w4.frozen? ⟨w.heap.size, 4, none⟩ = false := frozen_blk HO7.out.blk _
      clear cs
      go_wp2_with fail
      have hO8 : Own1 w w.heap.size 48 ([(T + U) % 4294967296, a, bb, c, (d + T) % 4294967296, e, f, g].map u32v) ((w4.setCell ⟨w.heap.size, 0, none⟩ (u32v ((T + U) % 4294967296))).setCell ⟨w.heap.size, 4, none⟩ (u32v ((d + T) % 4294967296))) := (HO7.out.set 0 (u32v ((T + U) % 4294967296))).set 4 (u32v ((d + T) % 4294967296))
      go_roundw
      case rel => exact ⟨k + 1, by omega, by go_num, by rw [HR2.out]; exact hO8⟩
      case measure => simp [intOf]; omega
    · obtain rfl : k = 64 := by omega
      obtain ⟨h8, hB⟩ := rounds_ok W K H HH.out HHB.out 64
      obtain ⟨V, hV⟩ : ∃ V, V = rounds W K H 64 := ⟨_, rfl⟩
      have hO := HO.out
      have hR1 := HR0.out
      rw [← hV] at h8 hB hO hR1
      clear HO HR0 hV HS HV HW HO1 HWL HWB
      have hO2 : Own2 w w.heap.size 48 (V.map u32v) G t ((addH H V 0).map u32v ++ (K.map u32v ++ rest)) wr :=
        ⟨hO.blk, by rw [addH_zero HH.out]; exact (hO.bel.block G hGs).trans HG.out, ⟨hO.bel.os, hO.bel.tape, hO.bel.output, hO.bel.size, fun k hk _ => hO.bel.block k hk⟩⟩
      have H8 := Lib.hid h8
      have HB := Lib.hid hB
      have HO2 := Lib.hid hO2
      have HR1 := Lib.hid hR1
      clear h8 hB hO hO2 hR1
      go_wp2_with fail
      go_loopw [84] (fun i wr => ∃ k : Nat, k ≤ 8 ∧ i = .int .i64 k ∧ Own2 w w.heap.size 48 (V.map u32v) G t ((addH H V k).map u32v ++ (K.map u32v ++ rest)) wr) (fun i _ => 8 - (intOf i).toNat)
      case atStart => exact ⟨0, by omega, rfl, HO2.out⟩
      case round =>
        obtain ⟨k, hk, rfl, hO⟩ := hrel
        have HO := Lib.hid hO; clear hO
        rename_i wq _
        by_cases h8 : k < 8
        · have hs := addH_step H V h8
          have HSt := Lib.hid hs; clear hs
          have s0 := HO.out.cellN (j := k) (x := .int .u32 (V.getD k 0 : Nat)) (by
            rw [List.getElem?_map, List.getD_eq_getElem?_getD, List.getElem?_eq_getElem (by rw [H8.out]; exact h8)]; rfl)
          have s1 := HO.out.cellG (j := k) (x := .int .u32 (H.getD k 0 : Nat)) (by
            have e1 := addH_len H V k
            rw [List.getElem?_append_left (by simp; omega), List.getElem?_map, addH_get _ _ _ h8, if_neg (by omega)]; rfl)
          have f1 := HO.out.frozenG k
          have hNG : ¬ w.heap.size = G := by omega
          have HSx : Hid ((addH H V k).set k ((H.getD k 0 + V.getD k 0) % 4294967296) = addH H V (k + 1)) := HSt
          clear HSt
          generalize V.getD k 0 = x at *
          generalize H.getD k 0 = y at *
          go_wp2_with fail
          go_region
          go_wp2_with fail
          have hO3 := HO.out.setG hNG k (u32v ((y + x) % 4294967296))
          rw [set_map_app (by rw [addH_len]; exact h8), HSx.out] at hO3
          have e : u32v ((y + x) % 4294967296) = Value.int .u32 (((y : Int) + (x : Int)) % 4294967296) := by simp [u32v]
          rw [e] at hO3
          refine ⟨⟨k + 1, by omega, by go_num, hO3.drew⟩, ?_⟩
          simp [intOf]; omega
        · obtain rfl : k = 8 := by omega
          go_wp2_with fail
          refine bodyPost_end (results_none rfl _ _ _) rfl ⟨rfl, HO.out.grown, ?_⟩
          rw [HR1.out]
          exact HO.out.blkG
end Go.Proofs.Ytjpimfbkdighfaa
