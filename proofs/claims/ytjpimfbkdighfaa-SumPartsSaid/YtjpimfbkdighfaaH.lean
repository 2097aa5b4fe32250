import Derived.Test.YtjpimfbkdighfaaK
import Derived.Test.YtjpimfbkdighfaaD
import Derived.Great.BuildSlice
/-! Slices of hashes that are handed in: copies with marks behind their ends (moidorekit). -/
namespace Go.Proofs.Ytjpimfbkdighfaa
open Go.RowKit

/-- A slice of hashes. -/
structure Hs (w : World) (v : Value) (l : List (List Nat)) : Prop where
  rd : Rd w v l.length (u8s l.flatten)
  len : ∀ h ∈ l, h.length = 32
  lt : ∀ h ∈ l, ∀ x ∈ h, x < 256
theorem Hs.below {w w' : World} {v : Value} {l : List (List Nat)} (h : Hs w v l) (hb : Qt w w') : Hs w' v l := ⟨h.rd.below hb, h.len, h.lt⟩
def z31 : List Nat := List.replicate 31 0
def mkh (k i : Nat) : List Nat := mkn k i % 256 :: z31
theorem mkh_len (k i : Nat) : (mkh k i).length = 32 := rfl
theorem mkh_lt (k i : Nat) : ∀ x ∈ mkh k i, x < 256 := by
  intro x hx
  rcases List.mem_cons.1 hx with rfl | hx
  · exact Nat.mod_lt _ (by decide)
  · have := List.eq_of_mem_replicate hx; omega
theorem flat_len (l : List (List Nat)) (h : ∀ x ∈ l, x.length = 32) : l.flatten.length = l.length * 32 := by
  induction l with
  | nil => rfl
  | cons a l ih => rw [List.flatten_cons, List.length_append, ih (fun x hx => h x (by simp [hx])), h a (by simp), List.length_cons]; omega
theorem mkh_built (x : Int) : Try.prog.built 27 [(0, .int .u8 x)] = some (Value.int .u8 x :: u8s z31).toArray := by kernel_rfl
theorem wpList_built1 {P : Program} {ops : Array Oper} {rest : List Oper} {o : Oper} {a : Act} {w : World} {Q : Exit → Act → World → Prop} (hg : o.guard = none) (t : TypeId) (x : Operand) (ho : o.op = .build t #[(0, x)])
    (vx : Value) (hx : a.eval x = vx) (cs : Array Value) (hf : P.built t [(0, vx)] = some cs) (h : wpList P ops Q rest (a.put o.dst (.agg cs)) w) : wpList P ops Q (o :: rest) a w := by
  have e : P.built t ((#[(0, x)] : Array (Nat × Operand)).map fun (i, x) => (i, a.eval x)).toList = some cs := by simp [hx, hf]
  exact wpList_build hg t _ ho (by rw [e]; rfl) (by rw [e]; exact h)
theorem u8s_one2 (l : List Nat) : (u8s l).toArray.all (·.oneCell') = true := all_oneCell_toArray (fun v hv => by obtain ⟨j, _, rfl⟩ := List.mem_map.1 hv; rfl)
theorem sz32h (l : List Nat) (hl : l.length = 32) : ((Try.prog).info? 27).map (·.size) = some (u8s l).toArray.size := by rw [List.size_toArray, u8s, List.length_map, hl]; kernel_rfl
theorem sz32y (l : List Nat) (hl : l.length = 32) : (u8s (List.replicate 32 0)).toArray.size = (u8s l).toArray.size := by rw [List.size_toArray, List.size_toArray, u8s, u8s, List.length_map, List.length_map, hl, List.length_replicate]

set_option maxRecDepth 100000 in
set_option maxHeartbeats 1000000 in
theorem markHash_any (k i : Nat) (hk : k ≤ 1000) (hi : i ≤ 1000000000) (w : World) : Calls Try.prog 29 #[.int .i64 (k : Int), .int .i64 (i : Int)] w fun e w' => e = .returned (.agg (u8s (mkh k i)).toArray) ∧ Qt w w' := by
  have hm := fun w => mark_any k i hk hi w
  have hb : mkn k i ≤ 10000000000 := by unfold mkn; omega
  have hu : (Value.int .u8 ((mkn k i : Int) % 256) :: u8s z31).toArray = (u8s (mkh k i)).toArray := by
    rfl
  have hbu := mkh_built ((mkn k i : Int) % 256)
  rw [hu] at hbu
  have HS := Lib.hid (sz32h (mkh k i) rfl)
  have HZ := Lib.hid (sz32y (mkh k i) rfl)
  have H1 := Lib.hid (u8s_one2 (mkh k i))
  have HBU := Lib.hid hbu
  have HM := Lib.hid hm
  clear hu hbu hm
  generalize mkh k i = L at *
  generalize mkn k i = m at *
  go_enter Try.func29, Try.ntmps29
  go_wp2_with (first
    | (go_at_call 35; refine (HM.out _).mono ?_; rintro e w' ⟨rfl, rfl⟩)
    | (refine wpList_built1 rfl 27 (.tmp 8) rfl _ rfl _ HBU.out ?_)
    | (refine wpList_store_row rfl 27 (.tmp 4) (.tmp 9) rfl w.heap.size (u8s L).toArray rfl rfl 27 (u8s (List.replicate 32 0)).toArray (heap_alloc_new w _) HS.out HZ.out H1.out ?_))
  refine bodyPost_ret (v := .agg (u8s L).toArray) (results_cell_row rfl _ _ w.heap.size _ _ _ (.array 32 5) rfl (setRow_heap _ _ _ _ _ _ (heap_alloc_new w _)) (by kernel_rfl) rfl HS.out) rfl ⟨rfl, ?_⟩
  exact ⟨rfl, rfl, rfl, by rw [setRow_size]; simp, fun j hj => by rw [setRow_other _ _ _ _ (by omega)]; exact Below.heap_alloc w _ j hj⟩
end Go.Proofs.Ytjpimfbkdighfaa
