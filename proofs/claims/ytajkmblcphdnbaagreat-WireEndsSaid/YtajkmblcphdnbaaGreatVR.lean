import Derived.Test.YtajkmblcphdnbaaGreatVQ
import Derived.DeepKeys
/-! What is told, held together. -/
namespace Go.Proofs.YtajkmblcphdnbaaGreat
open Go.RowKit
set_option linter.unusedVariables false
set_option linter.unusedSimpArgs false

theorem mapM_some {α β : Type} (f : α → Option β) : ∀ (l : List α), (∀ x ∈ l, (f x).isSome = true) → (l.mapM f).isSome = true
  | [], _ => rfl
  | x :: r, h => by
    obtain ⟨y, hy⟩ := Option.isSome_iff_exists.1 (h x (by simp))
    obtain ⟨ys, hys⟩ := Option.isSome_iff_exists.1 (mapM_some f r (fun z hz => h z (by simp [hz])))
    rw [List.mapM_cons, hy]
    simp [hys]
theorem lits_int {P : Program} {t : TypeId} {q : IntKind} {n : Int} (d : Nat) (hu : P.underlying t = some (.int q)) (hw : (Lit.int q n).wf = true) : (P.keyLits (d + 1) t [.int q n]).isSome = true := by
  simp [Program.keyLits, hu, hw]
theorem lits_bool {P : Program} {t : TypeId} {b : Bool} (d : Nat) (hu : P.underlying t = some .bool) : (P.keyLits (d + 1) t [.bool b]).isSome = true := by
  simp [Program.keyLits, hu]
theorem lits_string {P : Program} {t : TypeId} {s : ByteArray} (d : Nat) (hu : P.underlying t = some .string) (hs : s.size ≤ maxLen) : (P.keyLits (d + 1) t [.string s]).isSome = true := by
  simp [Program.keyLits, hu, hs]
theorem keyLits_arr {P : Program} {t e : TypeId} {n d : Nat} {cs : List Value} (hu : P.underlying t = some (.array n e)) : P.keyLits (d + 1) t cs = if cs.length = P.cellsOf t then ((List.range n).mapM fun i => P.keyLits d e ((cs.drop (i * P.cellsOf e)).take (P.cellsOf e))).map List.flatten else none := by
  conv => lhs; unfold Program.keyLits
  rw [hu]
theorem keyLits_str {P : Program} {t : TypeId} {fs : Array Field} {d : Nat} {cs : List Value} (hu : P.underlying t = some (.struct fs)) : P.keyLits (d + 1) t cs = if cs.length = P.cellsOf t ∧ fs.all (·.name != "_") = true then (fs.toList.mapM fun f => P.keyLits d f.type ((cs.drop f.offset).take (P.cellsOf f.type))).map List.flatten else none := by
  conv => lhs; unfold Program.keyLits
  rw [hu]
theorem lits_bytes {P : Program} {t e : TypeId} (d : Nat) (h : List Nat) (hh : h.length = 32) (h8 : ∀ x ∈ h, x < 256) (hu : P.underlying t = some (.array 32 e)) (he : P.underlying e = some (.int .u8)) (hc : P.cellsOf t = 32) (hce : P.cellsOf e = 1) : (P.keyLits (d + 2) t (u8s h)).isSome = true := by
  rw [keyLits_arr hu, if_pos (by rw [u8s_len, hh, hc]), Option.isSome_map]
  refine mapM_some _ _ fun i hi => ?_
  have hi' : i < h.length := by rw [hh]; simpa using hi
  rw [hce]
  have e1 : ((u8s h).drop (i * 1)).take 1 = [.int .u8 ((h[i] : Nat) : Int)] := by
    rw [Nat.mul_one, List.drop_eq_getElem_cons (by rw [u8s_len]; exact hi')]
    simp [u8s]
  rw [e1]
  refine lits_int (P := P) d he ?_
  have := h8 _ (List.getElem_mem hi')
  simp [Lit.wf, IntKind.min, IntKind.max, IntKind.signed, IntKind.bits]; omega
theorem i64_wf {n : Int} (h : -9223372036854775808 ≤ n ∧ n < 9223372036854775808) : (Lit.int .i64 n).wf = true := by
  simp [Lit.wf, IntKind.min, IntKind.max, IntKind.signed, IntKind.bits]; omega
theorem u64_wf {n : Nat} (h : n < 18446744073709551616) : (Lit.int .u64 (n : Int)).wf = true := by
  simp [Lit.wf, IntKind.min, IntKind.max, IntKind.signed, IntKind.bits]; omega
theorem told_lits (n : Int) (u : Nat) (h : List Nat) (s : ByteArray) (is : Bool) (l : Nat) (e : Int) (en : Bool) (hn : -9223372036854775808 ≤ n ∧ n < 9223372036854775808) (hu : u < 18446744073709551616) (hh : h.length = 32) (h8 : ∀ x ∈ h, x < 256)
    (hs : s.size ≤ maxLen) (hl : l < 9223372036854775808) (he : -9223372036854775808 ≤ e ∧ e < 9223372036854775808) :
    ∃ la, Tryz.prog.keyLits 5 49 (toldC n u h s is l e en) = some la := by
  rw [← Option.isSome_iff_exists]
  obtain ⟨fs, hfs⟩ : ∃ fs, Tryz.prog.underlying 49 = some (.struct fs) := und_struct (by kernel_rfl)
  have hf : (match Tryz.prog.underlying 49 with | some (.struct fs) => (fs.toList.map fun f => (f.type, f.offset), fs.all (·.name != "_")) | _ => ([], false)) = ([(3, 0), (23, 1), (25, 2), (9, 34), (4, 35), (3, 36), (41, 37), (4, 38)], true) := by kernel_rfl
  rw [hfs] at hf
  obtain ⟨h1, h2⟩ := Prod.mk.inj hf
  rw [keyLits_str hfs, if_pos ⟨by rw [toldZ_39 n u h hh]; kernel_rfl, h2⟩, Option.isSome_map]
  refine mapM_some _ _ fun f hfm => ?_
  have hm : (f.type, f.offset) ∈ [(3, 0), (23, 1), (25, 2), (9, 34), (4, 35), (3, 36), (41, 37), (4, 38)] := by rw [← h1]; exact List.mem_map.2 ⟨f, hfm, rfl⟩
  have c1 : Tryz.prog.cellsOf 3 = 1 := by kernel_rfl
  have c2 : Tryz.prog.cellsOf 23 = 1 := by kernel_rfl
  have c3 : Tryz.prog.cellsOf 25 = 32 := by kernel_rfl
  have c4 : Tryz.prog.cellsOf 9 = 1 := by kernel_rfl
  have c5 : Tryz.prog.cellsOf 4 = 1 := by kernel_rfl
  have c6 : Tryz.prog.cellsOf 41 = 1 := by kernel_rfl
  have d34 : ∀ j, (toldC n u h s is l e en).drop (34 + j) = ([.string s, .bool is, .int .i64 (l : Int), .int .i64 e, .bool en] : List Value).drop j := fun j => by
    have hA : ([.int .i64 n, .int .u64 (u : Int)] ++ u8s h : List Value).length = 34 := by simp [u8s_len, hh]
    have e0 : toldC n u h s is l e en = ([.int .i64 n, .int .u64 (u : Int)] ++ u8s h) ++ [.string s, .bool is, .int .i64 (l : Int), .int .i64 e, .bool en] := by simp [toldC]
    rw [e0, List.drop_append, List.drop_eq_nil_of_le (by omega), hA, List.nil_append, show 34 + j - 34 = j from by omega]
  simp only [List.mem_cons, Prod.mk.injEq, List.not_mem_nil, or_false] at hm
  rcases hm with ⟨ht, ho⟩ | ⟨ht, ho⟩ | ⟨ht, ho⟩ | ⟨ht, ho⟩ | ⟨ht, ho⟩ | ⟨ht, ho⟩ | ⟨ht, ho⟩ | ⟨ht, ho⟩
  · rw [ht, ho, c1]; exact lits_int 3 (by kernel_rfl) (i64_wf hn)
  · rw [ht, ho, c2]; exact lits_int 3 (by kernel_rfl) (u64_wf hu)
  · rw [ht, ho, c3]
    have e1 : ((toldC n u h s is l e en).drop 2).take 32 = u8s h := by
      unfold toldC
      rw [List.drop_append, show ([.int .i64 n, .int .u64 (u : Int)] : List Value).drop 2 = [] from rfl, List.nil_append]
      simp [List.take_append, u8s_len, hh]
    rw [e1]
    exact lits_bytes 2 h hh h8 (by kernel_rfl) (e := 5) (by kernel_rfl) c3 (by kernel_rfl)
  · rw [ht, ho, c4, d34 0]; exact lits_string 3 (by kernel_rfl) hs
  · rw [ht, ho, c5, d34 1]; exact lits_bool 3 (by kernel_rfl)
  · rw [ht, ho, c1, d34 2]; exact lits_int 3 (by kernel_rfl) (i64_wf ⟨by omega, by omega⟩)
  · rw [ht, ho, c6, d34 3]; exact lits_int 3 (by kernel_rfl) (i64_wf he)
  · rw [ht, ho, c5, d34 4]; exact lits_bool 3 (by kernel_rfl)
/-- Two that are the same. -/
theorem neq_same (C : List Value) (h : ∃ la, Tryz.prog.keyLits 5 49 C = some la) (hl : C.length = 39) (w : World) : (binOp .neq 49 (.agg C.toArray) (.agg C.toArray)).run Tryz.prog w = .ok (.bool false) w := by
  obtain ⟨la, hla⟩ := h
  have hfo : (Value.agg C.toArray).formed Tryz.prog 49 = true := by
    obtain ⟨fs, hfs⟩ : ∃ fs, Tryz.prog.underlying 49 = some (.struct fs) := und_struct (by kernel_rfl)
    simp only [Value.formed, hfs, List.size_toArray, hl]
    kernel_rfl
  obtain ⟨r, hr, hrt⟩ := run_equalIn_deep (P := Tryz.prog) 9996 4 49 (by kernel_rfl) w 5 5 (.agg C.toArray) (.agg C.toArray) la la hfo hfo (by simpa [Value.cells] using hla) (by simpa [Value.cells] using hla)
  have hrr : r = true := hrt.2 rfl
  rw [hrr] at hr
  have e2 : binOp .neq 49 (.agg C.toArray) (.agg C.toArray) = (do pure (.bool (!(← Op.equal 49 (.agg C.toArray) (.agg C.toArray)))) : Sem Value) := by simp [binOp]
  rw [e2]
  simp only [Sem.run_bind, Op.equal, Op.maxDepth]
  rw [show (10000 : Nat) = 9996 + 4 from rfl, hr]
  simp
end Go.Proofs.YtajkmblcphdnbaaGreat
