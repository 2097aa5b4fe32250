import Derived.Test.YtajkmblcphdnbaaGreatVS
import Derived.Deep.Matrix
import Derived.SizedLaws
import Derived.OpenShut
/-! What comes in, read: bytes, calls. -/
namespace Go.Proofs.YtajkmblcphdnbaaGreat
open Go.RowKit Go.Deep Go.ChangeShapes Go.WideShapes
set_option linter.unusedVariables false
set_option linter.unusedSimpArgs false

theorem putC_lenU (x : PutD) (bv : Value) (h : x.h.length = 32) : (putC x bv).length = 37 := by simp [putC, u8s_len, h]
theorem addr_plain {w : World} {a : Addr} {v : Value} (h : w.cell? (a.add 0) = some v) : ∃ b off, a = ⟨b, off, none⟩ := by
  obtain ⟨b, off, sp⟩ := a
  cases sp with
  | none => exact ⟨b, off, rfl⟩
  | some s =>
    exfalso
    rw [show (⟨b, off, some s⟩ : Addr).add 0 = ⟨b, off, some s⟩ from rfl] at h
    unfold World.cell? at h
    split at h
    · simp at h
    · cases h
theorem wf_u8' {n : Int} (h : (Lit.int .u8 n).wf = true) : ∃ m : Nat, n = m ∧ m < 256 := by
  simp [Lit.wf, IntKind.min, IntKind.max, IntKind.signed, IntKind.bits] at h
  exact ⟨n.toNat, by omega, by omega⟩
theorem wf_i64' {n : Int} (h : (Lit.int .i64 n).wf = true) : -9223372036854775808 ≤ n ∧ n < 9223372036854775808 := by
  simp [Lit.wf, IntKind.min, IntKind.max, IntKind.signed, IntKind.bits] at h
  omega
theorem wf_u64' {n : Int} (h : (Lit.int .u64 n).wf = true) : ∃ m : Nat, n = m ∧ m < 18446744073709551616 := by
  simp [Lit.wf, IntKind.min, IntKind.max, IntKind.signed, IntKind.bits] at h
  exact ⟨n.toNat, by omega, by omega⟩
theorem bytes_of {zs : List Int} (h : ∀ n ∈ zs, (Lit.int .u8 n).wf = true) : ∃ xs : List Nat, zs = xs.map (fun (x : Nat) => (x : Int)) ∧ xs.length = zs.length ∧ ∀ x ∈ xs, x < 256 := by
  refine ⟨zs.map Int.toNat, ?_, by simp, fun x hx => ?_⟩
  · rw [List.map_map]
    conv => lhs; rw [← List.map_id zs]
    apply List.map_congr_left
    intro n hn
    obtain ⟨m, rfl, _⟩ := wf_u8' (h n hn)
    rfl
  · obtain ⟨n, hn, rfl⟩ := List.mem_map.1 hx
    obtain ⟨m, rfl, hm⟩ := wf_u8' (h n hn)
    exact hm
/-- Any text is that of its bytes. -/
theorem str_of (s : ByteArray) : ∃ b : List Nat, s = str b ∧ b.length = s.size ∧ ∀ x ∈ b, x < 256 := by
  refine ⟨s.data.toList.map UInt8.toNat, ?_, by rw [List.length_map, Array.length_toList]; rfl, fun x hx => ?_⟩
  · unfold str
    rw [List.map_map]
    have e : s.data.toList.map (UInt8.ofNat ∘ UInt8.toNat) = s.data.toList := by
      conv => rhs; rw [← List.map_id s.data.toList]
      apply List.map_congr_left
      intro c _
      simp
    rw [e]
  · obtain ⟨c, _, rfl⟩ := List.mem_map.1 hx
    exact UInt8.toNat_lt c

section
variable {H : Type} {enc : TypeId × Value → H} {P : Program} {w : World} {held : Bool}

/-- Bytes in cells, as a datum tells them. -/
theorem open_bytes_cs {t e : TypeId} {fuel : Nat} {cs : List Value} {x : DataW H × List MemPlace} (ht : P.underlying t = some (.slice e)) (he : P.underlying e = some (.int .u8)) (ce : P.cellsOf e = 1) (be : P.bytesOf e = 1)
    (h : DataW.trod enc P w 0 (fun _ => true) held fuel t cs = some x) :
    ∃ (v : Value) (xs : List Nat), cs = [v] ∧ (∃ a c, v = .slice a xs.length c ∧ (a = none → c = 0) ∧ c ≤ 9223372036854775807) ∧ Rd w v xs.length (u8s xs) ∧ (∀ z ∈ xs, z < 256) ∧ (xs.length = 0 ∨ ∃ n ∈ x.1.weights P t, xs.length ≤ n) ∧ (0 < xs.length → ∃ b off c, v = .slice (some ⟨b, off, none⟩) xs.length c) := by
  rcases open_ints ht he ce h with ⟨rfl, _⟩ | ⟨a, len, cap, zs, rfl, _, hl, hm, hz, rfl, hcell, hwf⟩
  · exact ⟨_, [], rfl, ⟨none, 0, rfl, fun _ => rfl, by decide⟩, ⟨none, 0, rfl, Nat.le_refl _, .inl rfl⟩, (fun z hz => by cases hz), .inl rfl, fun h => by simp at h⟩
  · unfold maxLen at hm
    simp at hz
    have htl : (zs.take len).length = len := by rw [List.length_take, hz]; omega
    obtain ⟨xs, e1, e2, e3⟩ := bytes_of (zs := zs.take len) (fun n hn => hwf n (List.mem_of_mem_take hn))
    have el : xs.length = len := by rw [e2, htl]
    subst el
    have hpl : 0 < xs.length → ∃ b off, a = ⟨b, off, none⟩ := fun h0 => addr_plain (hcell 0 (by omega))
    refine ⟨_, xs, rfl, ⟨some a, cap, rfl, (fun h => by cases h), hm⟩, ⟨some a, cap, rfl, hl, ?_⟩, e3, .inr ⟨xs.length + (zs.length - xs.length), ?_, by omega⟩, fun h0 => ?_⟩
    · by_cases h0 : xs.length = 0
      · left; rw [List.length_eq_zero_iff.1 h0]; rfl
      · right
        obtain ⟨b, off, rfl⟩ := hpl (by omega)
        refine ⟨b, off, rfl, fun j u hu => ?_⟩
        have hj : j < xs.length := by
          have := (List.getElem?_eq_some_iff.1 hu).1
          rwa [u8s_len] at this
        rw [← add_plain, hcell j (by omega), ← hu, u8s, List.getElem?_map, List.getElem?_eq_getElem hj]
        have e5 : (zs.take xs.length)[j]? = some ((xs[j] : Nat) : Int) := by rw [e1, List.getElem?_map, List.getElem?_eq_getElem hj]; rfl
        rw [List.getElem?_take, if_pos (by omega)] at e5
        rw [List.getD_eq_getElem?_getD, e5]; rfl
    · simp only [DataW.weights, ht, be, Nat.mul_one]
      exact List.mem_cons.2 (.inl (by simp [lits]; omega))
    · obtain ⟨b, off, rfl⟩ := hpl h0
      exact ⟨b, off, cap, rfl⟩

/-- Bytes that came in. -/
theorem open_sl {ts : List TypeId} {ds : List (DataW H)} {j : Nat} {t e : TypeId} {v : Value} {d : DataW H} {ps : List MemPlace} (ht : P.underlying t = some (.slice e)) (he : P.underlying e = some (.int .u8)) (ce : P.cellsOf e = 1) (be : P.bytesOf e = 1)
    (hsz : (DataW.weightsEach P ts ds).all (· ≤ reachBytes) = true) (htj : ts[j]? = some t) (hdj : ds[j]? = some d) (hv : ∃ a n c, v = .slice a n c) (h : DataW.Trod enc P w 0 (fun _ => true) held t v d ps) :
    ∃ xs : List Nat, Sl w v xs ∧ (∀ x ∈ xs, x < 256) ∧ xs.length ≤ 140737488351232 := by
  obtain ⟨a0, n0, c0, rfl⟩ := hv
  obtain ⟨fuel, hf⟩ := h
  obtain ⟨v', xs, hcs, ⟨a, c, rfl, hac, hc9⟩, hrd, h8, hw, hpos⟩ := open_bytes_cs ht he ce be hf
  simp [Value.cells] at hcs
  obtain ⟨rfl, rfl, rfl⟩ := hcs
  have hlen : xs.length ≤ 140737488351232 := by
    rcases hw with hw | ⟨n, hn, hle⟩
    · omega
    · have := List.all_eq_true.1 hsz _ (DataW.weights_mem_each htj hdj n hn)
      have hr : reachBytes = 140737488351232 := by decide
      rw [hr] at this
      simp at this
      omega
  refine ⟨xs, ?_, h8, hlen⟩
  obtain ⟨a', c', hv, hle, hx⟩ := hrd
  cases hv
  by_cases h0 : xs.length = 0
  · have hx0 := List.length_eq_zero_iff.1 h0
    subst hx0
    cases a0 with
    | none => rw [hac rfl]; exact .inl ⟨⟨_, rfl⟩, rfl⟩
    | some ad =>
      by_cases hc0 : c0 = 0
      · subst hc0; exact .inl ⟨⟨_, rfl⟩, rfl⟩
      · obtain ⟨b, off, rfl⟩ : ∃ b off, ad = ⟨b, off, none⟩ := by
          rcases open_ints ht he ce hf with ⟨h1, _⟩ | ⟨a1, len, cap, zs, h1, _, _, _, hz, _, hcell, _⟩
          · simp [Value.cells] at h1
          · simp [Value.cells] at h1
            obtain ⟨rfl, rfl, rfl⟩ := h1
            simp at hz
            exact addr_plain (hcell 0 (by omega))
        exact .inr ⟨b, off, c0, rfl, by simp, ⟨hc9, by simp⟩, fun j y hy => by simp at hy⟩
  · obtain ⟨b, off, c2, hv2⟩ := hpos (by omega)
    cases hv2
    refine .inr ⟨b, off, c0, rfl, hle, ⟨hc9, by omega⟩, fun j y hy => ?_⟩
    rcases hx with hx | ⟨b', off', e1, hx⟩
    · rw [show xs = [] from by simpa [u8s] using hx] at h0; simp at h0
    · cases e1
      exact hx j _ (by rw [u8s, List.getElem?_map, hy]; rfl)
theorem weights_part {t : TypeId} {fs : Array Field} (hs : P.underlying t = some (.struct fs)) {parts : List (DataW H)} {j : Nat} {f : Field} {d : DataW H} (hf : fs[j]? = some f) (hd : parts[j]? = some d) : ∀ n ∈ d.weights P f.type, n ∈ (DataW.agg parts).weights P t := by
  intro n hn
  simp only [DataW.weights, hs]
  exact DataW.weights_mem_each (j := j) (t := f.type) (by rw [List.getElem?_map]; simp [hf]) hd n hn
theorem weights_all {e : TypeId} {ds : List (DataW H)} {d : DataW H} (hd : d ∈ ds) : ∀ n ∈ d.weights P e, n ∈ DataW.weightsAll P e ds := by
  intro n hn
  induction ds with
  | nil => cases hd
  | cons a r ih =>
    unfold DataW.weightsAll
    rw [List.mem_append]
    rcases List.mem_cons.1 hd with rfl | h
    · exact .inl hn
    · exact .inr (ih h)
end
theorem field_at {fs : Array Field} {l : List (TypeId × Nat)} (h : (fs.toList.map fun f => (f.type, f.offset)) = l) {j : Nat} {t : TypeId} {o : Nat} (hj : l[j]? = some (t, o)) : ∃ f, fs[j]? = some f ∧ f.type = t ∧ f.offset = o := by
  rw [← h, List.getElem?_map] at hj
  cases hf : fs.toList[j]? with
  | none => rw [hf] at hj; cases hj
  | some f => rw [hf] at hj; cases hj; exact ⟨f, by simpa using hf, rfl, rfl⟩
section
variable {H : Type} {enc : TypeId × Value → H} {w : World} {held : Bool}
/-- A call's cells. -/
theorem open_put_cs {fuel : Nat} {cs : List Value} {x : DataW H × List MemPlace} (h : DataW.trod enc Tryz.prog w 0 (fun _ => true) held fuel 28 cs = some x) (hw : ∀ n ∈ x.1.weights Tryz.prog 28, n ≤ 140737488351232) :
    ∃ (y : PutD) (bv : Value), cs = putC y bv ∧ y.Ok ∧ Rd w bv y.b.length (u8s y.b) := by
  obtain ⟨fs, hfs⟩ : ∃ fs, Tryz.prog.underlying 28 = some (.struct fs) := und_struct (by kernel_rfl)
  have hfl : (match Tryz.prog.underlying 28 with | some (.struct fs) => (fs.toList.map fun f => (f.type, f.offset)) | _ => []) = [(3, 0), (3, 1), (23, 2), (25, 3), (26, 35), (9, 36)] := by kernel_rfl
  rw [hfs] at hfl
  obtain ⟨ys, n, _, rfl, hlen, hyl, hf⟩ := DataW.trod_struct hfs h
  have hcl : cs.length = 37 := hlen.trans (by kernel_rfl)
  have c1 : Tryz.prog.cellsOf 3 = 1 := by kernel_rfl
  have c2 : Tryz.prog.cellsOf 23 = 1 := by kernel_rfl
  have c3 : Tryz.prog.cellsOf 25 = 32 := by kernel_rfl
  have c4 : Tryz.prog.cellsOf 9 = 1 := by kernel_rfl
  have c5 : Tryz.prog.cellsOf 26 = 1 := by kernel_rfl
  have c6 : Tryz.prog.cellsOf 5 = 1 := by kernel_rfl
  obtain ⟨f0, g0, t0, o0⟩ := field_at hfl (j := 0) rfl
  obtain ⟨f1, g1, t1, o1⟩ := field_at hfl (j := 1) rfl
  obtain ⟨f2, g2, t2, o2⟩ := field_at hfl (j := 2) rfl
  obtain ⟨f3, g3, t3, o3⟩ := field_at hfl (j := 3) rfl
  obtain ⟨f4, g4, t4, o4⟩ := field_at hfl (j := 4) rfl
  obtain ⟨f5, g5, t5, o5⟩ := field_at hfl (j := 5) rfl
  have hsz : fs.size = 6 := by have := congrArg List.length hfl; simpa using this
  have hy : ∀ j, j < 6 → ∃ y, ys[j]? = some y := fun j hj => ⟨_, List.getElem?_eq_getElem (by omega)⟩
  obtain ⟨y0, e0⟩ := hy 0 (by omega)
  obtain ⟨y1, e1⟩ := hy 1 (by omega)
  obtain ⟨y2, e2⟩ := hy 2 (by omega)
  obtain ⟨y3, e3⟩ := hy 3 (by omega)
  obtain ⟨y4, e4⟩ := hy 4 (by omega)
  obtain ⟨y5, e5⟩ := hy 5 (by omega)
  have k0 := hf 0 f0 g0
  have k1 := hf 1 f1 g1
  have k2 := hf 2 f2 g2
  have k3 := hf 3 f3 g3
  have k4 := hf 4 f4 g4
  have k5 := hf 5 f5 g5
  rw [t0, o0, c1, e0] at k0
  rw [t1, o1, c1, e1] at k1
  rw [t2, o2, c2, e2] at k2
  rw [t3, o3, c3, e3] at k3
  rw [t4, o4, c5, e4] at k4
  rw [t5, o5, c4, e5] at k5
  obtain ⟨z0, d0, _, w0⟩ := DataW.trod_int (by kernel_rfl : Tryz.prog.underlying 3 = some (.int .i64)) k0
  obtain ⟨z1, d1, _, w1⟩ := DataW.trod_int (by kernel_rfl : Tryz.prog.underlying 3 = some (.int .i64)) k1
  obtain ⟨z2, d2, _, w2⟩ := DataW.trod_int (by kernel_rfl : Tryz.prog.underlying 23 = some (.int .u64)) k2
  obtain ⟨u2, rfl, hu2⟩ := wf_u64' w2
  obtain ⟨v4, xs, d4, _, hrd, h8, hw4, _⟩ := open_bytes_cs (by kernel_rfl : Tryz.prog.underlying 26 = some (.slice 5)) (by kernel_rfl) c6 (by kernel_rfl) k4
  obtain ⟨s, d5, hx5, _⟩ := DataW.trod_string (by kernel_rfl : Tryz.prog.underlying 9 = some .string) k5
  obtain ⟨sb, rfl, hsl, hs8⟩ := str_of s
  -- the hash
  obtain ⟨hs, m, _, _, hl3, hn3, hi3⟩ := DataW.trod_array (by kernel_rfl : Tryz.prog.underlying 25 = some (.array 32 5)) k3
  rw [c3] at hl3
  have hb3 : ∀ i, i < 32 → ∃ y : Nat, y < 256 ∧ ((cs.drop 3).take 32)[i]? = some (.int .u8 (y : Int)) := fun i hi' => by
    have h1 := hi3 i hi'
    rw [c6, Nat.mul_one, List.getElem?_eq_getElem (by omega)] at h1
    obtain ⟨z, hz, _, hw⟩ := DataW.trod_int (by kernel_rfl : Tryz.prog.underlying 5 = some (.int .u8)) h1
    obtain ⟨y, rfl, hy⟩ := wf_u8' hw
    refine ⟨y, hy, ?_⟩
    have := congrArg (·[0]?) hz
    simpa using this
  obtain ⟨Y, hY⟩ := choose_lt hb3
  have hh : (cs.drop 3).take 32 = u8s ((List.range 32).map Y) := by
    apply List.ext_getElem?
    intro i
    by_cases h32 : i < 32
    · rw [(hY i h32).2, u8s, List.getElem?_map, List.getElem?_map, List.getElem?_range h32]; rfl
    · rw [List.getElem?_eq_none (by omega), List.getElem?_eq_none (by simp [u8s]; omega)]
  have hpart : ∀ (j : Nat) (f : Field) (y : DataW H × List MemPlace), fs[j]? = some f → ys[j]? = some y → ∀ n ∈ y.1.weights Tryz.prog f.type, n ≤ 140737488351232 := fun j f y h1 h2 n hn =>
    hw n (weights_part hfs h1 (by rw [List.getElem?_map, h2]; rfl) n hn)
  refine ⟨⟨z0, z1, u2, (List.range 32).map Y, xs, sb⟩, v4, ?_, ⟨(wf_i64' w0).1, (wf_i64' w0).2, (wf_i64' w1).1, (wf_i64' w1).2, hu2, by simp, ?_, h8, hs8, ?_, ?_⟩, hrd⟩
  · have hcs : cs = cs.take 1 ++ ((cs.drop 1).take 1 ++ ((cs.drop 2).take 1 ++ ((cs.drop 3).take 32 ++ ((cs.drop 35).take 1 ++ (cs.drop 36).take 1)))) := by
      have t0 : (cs.drop 36).take 1 = cs.drop 36 := List.take_of_length_le (by rw [List.length_drop]; omega)
      have st : ∀ a b, (cs.drop a).take b ++ cs.drop (a + b) = cs.drop a := fun a b => by rw [← List.drop_drop, List.take_append_drop]
      rw [t0, st 35 1, st 3 32, st 2 1, st 1 1, List.take_append_drop]
    rw [hcs]
    have q0 : cs.take 1 = [.int .i64 z0] := by simpa using d0
    rw [q0, d1, d2, hh, d4, d5]
    simp [putC]
  · intro z hz
    obtain ⟨i, hi, rfl⟩ := List.mem_map.1 hz
    exact (hY i (by simpa using hi)).1
  · have := hpart 5 f5 y5 g5 e5 sb.length (by rw [t5, hx5]; simp only [DataW.weights, List.mem_singleton]; rw [hsl, Array.length_toList]; rfl)
    exact this
  · rcases hw4 with hw4 | ⟨n, hn, hle⟩
    · show xs.length ≤ _; omega
    · have := hpart 4 f4 y4 g4 e4 n (by rw [t4]; exact hn)
      show xs.length ≤ _; omega
/-- Calls that came in. -/
theorem open_puts {ts : List TypeId} {ds : List (DataW H)} {j : Nat} {v : Value} {d : DataW H} {ps : List MemPlace}
    (hsz : (DataW.weightsEach Tryz.prog ts ds).all (· ≤ reachBytes) = true) (htj : ts[j]? = some 30) (hdj : ds[j]? = some d) (hv : ∃ a n c, v = .slice a n c) (h : DataW.Trod enc Tryz.prog w 0 (fun _ => true) held 30 v d ps) :
    ∃ l : List (PutD × Value), Puts w v l := by
  have hr : reachBytes = 140737488351232 := by decide
  have hall : ∀ n ∈ d.weights Tryz.prog 30, n ≤ 140737488351232 := fun n hn => by
    have := List.all_eq_true.1 hsz _ (DataW.weights_mem_each htj hdj n hn)
    rw [hr] at this
    simpa using this
  have ht : Tryz.prog.underlying 30 = some (.slice 28) := by kernel_rfl
  have cp : Tryz.prog.cellsOf 28 = 37 := by kernel_rfl
  have bp : 1 ≤ Tryz.prog.bytesOf 28 := by decide +kernel
  obtain ⟨a0, n0, c0, rfl⟩ := hv
  obtain ⟨fuel, hf⟩ := h
  rcases open_slice ht hf with ⟨hcs, _⟩ | ⟨a, len, cap, m, n, D, Pl, hcs, _, hl, hm, hmm, hx, hi⟩
  · simp [Value.cells] at hcs
    obtain ⟨rfl, rfl, rfl⟩ := hcs
    exact ⟨[], none, 0, rfl, Nat.le_refl _, ⟨by decide, by decide⟩, (fun x hx => by cases hx), .inl rfl⟩
  · simp [Value.cells] at hcs
    obtain ⟨rfl, rfl, rfl⟩ := hcs
    unfold maxLen at hm
    obtain ⟨hx, _⟩ := Prod.mk.inj hx
    subst hx
    simp at hmm
    have hlen : n0 ≤ 140737488351232 := by
      have := hall ((((List.range n0).map D).length + ((List.range (m - n0)).map fun j => D (n0 + j)).length) * Tryz.prog.bytesOf 28) (by simp only [DataW.weights, ht]; exact List.mem_cons_self)
      rw [List.length_map, List.length_range] at this
      exact Nat.le_trans (Nat.le_trans (Nat.le_add_right _ _) (Nat.le_mul_of_pos_right _ bp)) this
    have hb : ∀ i, i < n0 → ∃ z : PutD × Value, z.1.Ok ∧ Rd w z.2 z.1.b.length (u8s z.1.b) ∧ ∀ k u, (putC z.1 z.2)[k]? = some u → w.cell? ((a.add (i * 37)).add k) = some u := fun i hi' => by
      obtain ⟨cs', h1, h2⟩ := hi i (by omega)
      rw [cp] at h1
      obtain ⟨y, bv, rfl, hok, hrd⟩ := open_put_cs h2 (fun n hn => hall n (by
        simp only [DataW.weights, ht]
        exact List.mem_cons_of_mem _ (List.mem_append_left _ (weights_all (List.mem_map.2 ⟨i, by simpa using hi', rfl⟩) n hn))))
      obtain ⟨_, _, h3⟩ := World.cells?_some h1
      exact ⟨(y, bv), hok, hrd, fun k u hu => (h3 k (by have := (List.getElem?_eq_some_iff.1 hu).1; rwa [putC_lenU y bv hok.h32] at this)).trans hu⟩
    haveI : Inhabited (PutD × Value) := ⟨(⟨0, 0, 0, [], [], []⟩, .nilIface)⟩
    obtain ⟨L, hL⟩ := choose_lt hb
    refine ⟨(List.range n0).map L, some a, c0, by simp, by simpa using hl, ⟨hm, by simpa using hlen⟩, fun x hx => ?_, ?_⟩
    · obtain ⟨i, hi', rfl⟩ := List.mem_map.1 hx
      have := hL i (by simpa using hi')
      exact ⟨this.1, this.2.1⟩
    · by_cases h0 : n0 = 0
      · left; subst h0; rfl
      · right
        obtain ⟨b, off, rfl⟩ : ∃ b off, a = ⟨b, off, none⟩ := addr_plain ((hL 0 (by omega)).2.2 0 _ rfl)
        refine ⟨b, off, rfl, fun i x hx k u hu => ?_⟩
        have hi' : i < n0 := by have := (List.getElem?_eq_some_iff.1 hx).1; simpa using this
        rw [List.getElem?_map, List.getElem?_range hi'] at hx
        cases hx
        have := (hL i hi').2.2 k u hu
        rwa [add_plain, add_plain] at this
end
end Go.Proofs.YtajkmblcphdnbaaGreat
