import Derived.Test.YtipgpnkdgofdeaaPT
/-! Terms of one node, by hand. -/
namespace Go.Proofs.Ytipgpnkdgofdeaa.Tm
open Go.RowKit
set_option linter.unusedVariables false
set_option linter.unusedSimpArgs false

theorem Lies.up {w w' : World} {v : Value} {l : List Nd} (h : Lies w (fun k => k < w.heap.size) v l) (q : Qt w w') : Lies w' (fun k => k < w'.heap.size) v l := (h.qt q).mono fun k hk => Nat.lt_of_lt_of_le hk q.size
theorem Lies.cap {w : World} {ok : Nat → Prop} {A : Option Addr} {c n : Nat} {l : List Nd} (h : Lies w ok (.slice A n c) l) : n = l.length ∧ l.length ≤ c := by
  obtain ⟨A', c', e, hc, h⟩ := h
  cases e
  exact ⟨rfl, hc⟩
/-- One node in a block of its own. -/
theorem lies1 (w : World) (n : Nd) : Lies (w.alloc (.cells (ndc n).toArray 32)) (fun k => w.heap.size ≤ k) (.slice (some ⟨w.heap.size, 0, none⟩) 1 1) [n] :=
  ⟨_, 1, rfl, Nat.le_refl _, fun _ => ⟨_, _, rfl, Nat.le_refl _, fun j u hu => by rw [World.cell?_alloc_new, Nat.zero_add]; simpa [ndcs] using hu⟩⟩
theorem fill5 (z : Array Value) (hz : z.size = 5) (cs : List Value) (h : cs.length = 5) : Instr.fill (fun i => some (i * 5, 5)) z [(0, .agg cs.toArray)] = some cs.toArray := by
  obtain ⟨c1, c2, c3, c4, c5, rfl⟩ : ∃ a b c d e, cs = [a, b, c, d, e] := by
    match cs, h with
    | [a, b, c, d, e], _ => exact ⟨a, b, c, d, e, rfl⟩
  obtain ⟨z⟩ := z
  obtain ⟨z1, z2, z3, z4, z5, rfl⟩ : ∃ a b c d e, z = [a, b, c, d, e] := by
    match z, hz with
    | [a, b, c, d, e], _ => exact ⟨a, b, c, d, e, rfl⟩
  kernel_rfl
theorem infoNd : ∃ (i : TypeInfo) (z : Value), Try.prog.info? 32 = some i ∧ i.zero = some z ∧ i.size = 5 ∧ i.bytes = 48 ∧ z.cells.size = 5 := by
  obtain ⟨i0, hi0, hz0, hz1, hz2⟩ := info_parts (P := Try.prog) (e := 32) (z := .agg #[.int .i64 0, .int .i64 0, .int .u64 0, .string ⟨#[]⟩, .int .i64 0]) (size := 5) (bytes := 48) (by kernel_rfl)
  exact ⟨i0, _, hi0, hz0, hz1, hz2, rfl⟩
section
variable {ops : Array Oper} {rest : List Oper} {o : Oper} {a : Act} {w : World} {Q : Exit → Act → World → Prop}
/-- A row of one node is made. -/
theorem armB1 (hgd : o.guard = none) (x : Operand) (ho : o.op = .buildSlice 22 1 #[(0, x)]) (n : Nd) (hx : a.eval x = .agg (ndc n).toArray)
    (h : wpList Try.prog ops Q rest (a.put o.dst (.slice (some ⟨w.heap.size, 0, none⟩) 1 1)) (w.alloc (.cells (ndc n).toArray 32))) : wpList Try.prog ops Q (o :: rest) a w := by
  obtain ⟨i, z, hi, hz, hs, _, _⟩ := infoNd
  refine wpList_buildSlice hgd 22 32 1 _ ho (ndc n).toArray i z (by kernel_rfl) hi hz (by rw [hs]; decide) (by rw [hs]; decide) ?_ h
  rw [hs]
  simp only [List.map_toArray, List.map_cons, List.map_nil, hx]
  exact fill5 _ (by simp) (ndc n) rfl
end
theorem results_c1 {P : Program} {fn : Func} {p : Tmp} {ty : TypeId} (h : fn.results = #[.cell p ty]) (tmps : Array Value) (w : World) (g : Nat) {t : TypeId} {cs : List Value} (d : TypeDesc)
    (hp : tmps.getD p undef = .pointer (some ⟨g, 0, none⟩)) (hg : Blk w g t cs) (hu : P.underlying ty = some d) (hd : (match d with | .struct _ | .array _ _ => true | _ => false) = true) (hi : (P.info? ty).map (·.size) = some cs.length) :
    (results fn tmps).run P w = .ok (.agg cs.toArray) w := results_cell_row h tmps w g t cs.toArray (0, 0) d hp hg hu hd (by simpa using hi)

def num1 (n : Int) : List Nd := [⟨1, n, 0, ⟨#[]⟩, 0⟩]
def blob1 (s : ByteArray) : List Nd := [⟨2, 0, 0, s, 0⟩]
set_option maxHeartbeats 1000000 in
theorem number_any (n : Int) (w : World) : Calls Try.prog 32 #[.int .i64 n] w fun e w' => ∃ A c, e = .returned (.agg #[.slice A 1 c]) ∧ Lies w' (fun k => k < w'.heap.size) (.slice A 1 c) (num1 n) ∧ Qt w w' := by
  obtain ⟨ts, hts⟩ : ∃ fs, Try.prog.underlying 24 = some (.struct fs) := ⟨_, Try.underlying24⟩
  obtain ⟨w1, hw1⟩ : ∃ w1, w1 = w.alloc (.cells #[.slice none 0 0] 24) := ⟨_, rfl⟩
  have hq1 : Qt w w1 := by rw [hw1]; exact (Qt.refl w).alloc _
  have hb1 : Blk w1 w.heap.size 24 [.slice none 0 0] := by rw [hw1]; exact heap_alloc_new w _
  have hl1 := lies1 w1 ⟨1, n, 0, ⟨#[]⟩, 0⟩
  have hsz : w1.heap.size = w.heap.size + 1 := by rw [hw1]; simp
  have HTS := Lib.hid hts
  have HB1 := Lib.hid hb1
  have HL1 := Lib.hid (show Lies _ _ (.slice (some ⟨w.heap.size + 1, 0, none⟩) 1 1) _ by rw [← hsz]; exact hl1)
  have HQ1 := Lib.hid hq1
  clear hts hb1 hl1 hq1
  subst hw1
  go_enter Try.func32, Try.ntmps32
  go_wp2_with (first
    | (refine armB1 rfl (.tmp 4) rfl ⟨1, n, 0, ⟨#[]⟩, 0⟩ rfl ?_)
    | (refine armSt rfl 24 (.tmp 2) (.tmp 6) rfl w.heap.size _ rfl rfl (HB1.out.alloc _) (by kernel_rfl) rfl (by intro u hu; rw [List.mem_singleton.1 hu]; rfl) ?_; intro w3 og3 hz3 hb3; (have HB3 := Lib.hid (show Blk w3 w.heap.size 24 [.slice (some ⟨w.heap.size + 1, 0, none⟩) 1 1] by simpa using hb3)); (have HOG3 := Lib.hid og3); clear hb3 og3))
  refine bodyPost_ret (v := .agg #[.slice (some ⟨w.heap.size + 1, 0, none⟩) 1 1]) (results_c1 (cs := [.slice (some ⟨w.heap.size + 1, 0, none⟩) 1 1]) rfl _ _ w.heap.size (.struct ts) rfl HB3.out HTS.out rfl (by kernel_rfl)) rfl ?_
  refine ⟨_, _, rfl, ?_, HOG3.out.qt (HQ1.out.alloc _) (Nat.le_refl _)⟩
  exact ((HL1.out.bound.move fun k hk ho => HOG3.out.block k hk (fun e => by cases e; omega)).mono fun k hk => Nat.lt_of_lt_of_le hk.2 HOG3.out.size)

set_option maxHeartbeats 1000000 in
theorem blob_any (s : ByteArray) (w : World) : Calls Try.prog 33 #[.string s] w fun e w' => ∃ A c, e = .returned (.agg #[.slice A 1 c]) ∧ Lies w' (fun k => k < w'.heap.size) (.slice A 1 c) (blob1 s) ∧ Qt w w' := by
  obtain ⟨ts, hts⟩ : ∃ fs, Try.prog.underlying 24 = some (.struct fs) := ⟨_, Try.underlying24⟩
  obtain ⟨w1, hw1⟩ : ∃ w1, w1 = w.alloc (.cells #[.slice none 0 0] 24) := ⟨_, rfl⟩
  have hq1 : Qt w w1 := by rw [hw1]; exact (Qt.refl w).alloc _
  have hb1 : Blk w1 w.heap.size 24 [.slice none 0 0] := by rw [hw1]; exact heap_alloc_new w _
  have hl1 := lies1 w1 ⟨2, 0, 0, s, 0⟩
  have hsz : w1.heap.size = w.heap.size + 1 := by rw [hw1]; simp
  have HTS := Lib.hid hts
  have HB1 := Lib.hid hb1
  have HL1 := Lib.hid (show Lies _ _ (.slice (some ⟨w.heap.size + 1, 0, none⟩) 1 1) _ by rw [← hsz]; exact hl1)
  have HQ1 := Lib.hid hq1
  clear hts hb1 hl1 hq1
  subst hw1
  go_enter Try.func33, Try.ntmps33
  go_wp2_with (first
    | (refine armB1 rfl (.tmp 4) rfl ⟨2, 0, 0, s, 0⟩ rfl ?_)
    | (refine armSt rfl 24 (.tmp 2) (.tmp 6) rfl w.heap.size _ rfl rfl (HB1.out.alloc _) (by kernel_rfl) rfl (by intro u hu; rw [List.mem_singleton.1 hu]; rfl) ?_; intro w3 og3 hz3 hb3; (have HB3 := Lib.hid (show Blk w3 w.heap.size 24 [.slice (some ⟨w.heap.size + 1, 0, none⟩) 1 1] by simpa using hb3)); (have HOG3 := Lib.hid og3); clear hb3 og3))
  refine bodyPost_ret (v := .agg #[.slice (some ⟨w.heap.size + 1, 0, none⟩) 1 1]) (results_c1 (cs := [.slice (some ⟨w.heap.size + 1, 0, none⟩) 1 1]) rfl _ _ w.heap.size (.struct ts) rfl HB3.out HTS.out rfl (by kernel_rfl)) rfl ?_
  refine ⟨_, _, rfl, ?_, HOG3.out.qt (HQ1.out.alloc _) (Nat.le_refl _)⟩
  exact ((HL1.out.bound.move fun k hk ho => HOG3.out.block k hk (fun e => by cases e; omega)).mono fun k hk => Nat.lt_of_lt_of_le hk.2 HOG3.out.size)

set_option maxHeartbeats 1000000 in
theorem real_any (b : Int) (w : World) : Calls Try.prog 21 #[.int .u64 b] w fun e w' => ∃ A c, e = .returned (.agg #[.slice A 1 c]) ∧ Lies w' (fun k => k < w'.heap.size) (.slice A 1 c) (real1 b) ∧ Qt w w' := by
  obtain ⟨ts, hts⟩ : ∃ fs, Try.prog.underlying 24 = some (.struct fs) := ⟨_, Try.underlying24⟩
  obtain ⟨w1, hw1⟩ : ∃ w1, w1 = w.alloc (.cells #[.slice none 0 0] 24) := ⟨_, rfl⟩
  have hq1 : Qt w w1 := by rw [hw1]; exact (Qt.refl w).alloc _
  have hb1 : Blk w1 w.heap.size 24 [.slice none 0 0] := by rw [hw1]; exact heap_alloc_new w _
  have hl1 := lies1 w1 ⟨3, 0, b, ⟨#[]⟩, 0⟩
  have hsz : w1.heap.size = w.heap.size + 1 := by rw [hw1]; simp
  have HTS := Lib.hid hts
  have HB1 := Lib.hid hb1
  have HL1 := Lib.hid (show Lies _ _ (.slice (some ⟨w.heap.size + 1, 0, none⟩) 1 1) _ by rw [← hsz]; exact hl1)
  have HQ1 := Lib.hid hq1
  clear hts hb1 hl1 hq1
  subst hw1
  go_enter Try.func21, Try.ntmps21
  go_wp2_with (first
    | (refine armB1 rfl (.tmp 4) rfl ⟨3, 0, b, ⟨#[]⟩, 0⟩ rfl ?_)
    | (refine armSt rfl 24 (.tmp 2) (.tmp 6) rfl w.heap.size _ rfl rfl (HB1.out.alloc _) (by kernel_rfl) rfl (by intro u hu; rw [List.mem_singleton.1 hu]; rfl) ?_; intro w3 og3 hz3 hb3; (have HB3 := Lib.hid (show Blk w3 w.heap.size 24 [.slice (some ⟨w.heap.size + 1, 0, none⟩) 1 1] by simpa using hb3)); (have HOG3 := Lib.hid og3); clear hb3 og3))
  refine bodyPost_ret (v := .agg #[.slice (some ⟨w.heap.size + 1, 0, none⟩) 1 1]) (results_c1 (cs := [.slice (some ⟨w.heap.size + 1, 0, none⟩) 1 1]) rfl _ _ w.heap.size (.struct ts) rfl HB3.out HTS.out rfl (by kernel_rfl)) rfl ?_
  refine ⟨_, _, rfl, ?_, HOG3.out.qt (HQ1.out.alloc _) (Nat.le_refl _)⟩
  exact ((HL1.out.bound.move fun k hk ho => HOG3.out.block k hk (fun e => by cases e; omega)).mono fun k hk => Nat.lt_of_lt_of_le hk.2 HOG3.out.size)
end Go.Proofs.Ytipgpnkdgofdeaa.Tm
