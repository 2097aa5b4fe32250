import Derived.Test.YtipgpnkdgofdeaaTK
import Derived.Laws.StructEq
/-! right, printed by genright.py. -/
namespace Go.Proofs.Ytipgpnkdgofdeaa.Tm
open Go.RowKit Go.Proofs.Ytipgpnkdgofdeaa.Fl
set_option linter.unusedVariables false
set_option linter.unusedSimpArgs false

def lz (a b : Int) (s : ByteArray) : Bool := (a == 0 && (b == 0 && (s.toList == (⟨#[]⟩ : ByteArray).toList)))
theorem eqR0 (d : Nat) (w : World) (a b : Int) (s : ByteArray) :
    (Op.equalIn (d + 2) 96 (.agg #[.int .i64 a, .int .u64 b, .string s]) (.agg #[.int .i64 0, .int .u64 0, .string ⟨#[]⟩])).run Try.prog w = .ok (lz a b s) w := by
  have hu := Try.underlying96
  have hf := show Try.prog.underlying 96 = some (.struct (Try.prog.fieldsOf 96)) by unfold Program.fieldsOf; rw [hu]
  rw [run_equalIn_struct (P := Try.prog) w (d + 1) 96 _ _ hf (by kernel_rfl)]
  unfold Program.fieldsOf
  rw [hu]
  unfold lz
  simp only [Op.eqFields, Sem.run_bind, if_pos, ne_eq, String.reduceEq, not_false_eq_true]
  go_simp
  cases h1 : (a == 0) <;> cases h2 : (b == 0) <;> simp_all
  cases s.toList <;> simp

/-- Which function looks at a node of this kind; what it tells. -/
def kfn (k : Int) : Option FuncId := if k = 1 then some 75 else if k = 2 then some 76 else if k = 3 then some 77 else if k = 4 then some 78 else if k = 5 then some 79 else if k = 6 then some 80 else none
def kA (n : Nd) : Int := if n.f0 = 1 then 0 else if n.f0 = 5 then 0 else n.f1
def kB (n : Nd) : Int := if n.f0 = 3 then 0 else n.f2
def kS (n : Nd) : ByteArray := if n.f0 = 2 then ⟨#[]⟩ else n.f3
def kQ (n : Nd) (ks : List Tr) : Bool :=
  if n.f0 = 1 then decide (ks.length = 0) else if n.f0 = 2 then decide (ks.length = 0) && decide ((n.f3.size : Int) ≤ 200) else if n.f0 = 3 then decide (ks.length = 0) && (fbits n.f2.toNat == n.f2)
  else if n.f0 = 5 then decide (0 ≤ n.f1) && decide (n.f1 ≤ 2147483647) else if n.f0 = 6 then rising ks else true
def kOk (n : Nd) (ks : List Tr) : Bool := (kfn n.f0).isSome && (kQ n ks && lz (kA n) (kB n) (kS n))
mutual
def rightT : Tr → Bool
  | .mk n ks => kOk n ks && rights ks
def rights : List Tr → Bool
  | [] => true
  | k :: r => rightT k && rights r
end
theorem rights_app (a b : List Tr) : rights (a ++ b) = (rights a && rights b) := by
  induction a with
  | nil => simp [rights]
  | cons k a ih => simp [rights, ih, Bool.and_assoc]

theorem kind_any (n : Nd) (ks : List Tr) (cs : List Value) (ok : Nat → Prop) (f : FuncId) (hf : kfn n.f0 = some f) (w : World) (hm : (Tr.mk n ks).flat.length ≤ 1000000) (hbr : Br w ok cs (.mk n ks)) :
    Calls Try.prog f #[.agg cs.toArray] w fun e w' => e = .returned (.tuple #[.agg #[.int .i64 (kA n), .int .u64 (kB n), .string (kS n)], .bool (kQ n ks)]) ∧ Qt w w' := by
  unfold kfn at hf
  unfold kA kB kS kQ
  split at hf
  · rename_i h; cases hf; simp only [h]; exact kind1_any n ks cs ok w hm hbr
  · split at hf
    · rename_i h; cases hf; simp only [h]; exact kind2_any n ks cs ok w hm hbr
    · split at hf
      · rename_i h; cases hf; simp only [h]; exact kind3_any n ks cs ok w hm hbr
      · split at hf
        · rename_i h; cases hf; simp only [h]; exact kind4_any n ks cs ok w hm hbr
        · split at hf
          · rename_i h; cases hf; simp only [h]; exact kind5_any n ks cs ok w hm hbr
          · split at hf
            · rename_i h; cases hf; simp only [h]; exact kind6_any n ks cs ok w hm hbr
            · cases hf
/-- What is found in the map. -/
theorem kfind (k : Int) : ∃ i, Instr.findNow (.int .i64) (.int .i64 k) kEs.toList 0 = some ((kfn k).map fun f => (i, fnv f)) := by
  unfold kfn
  split
  · rename_i h; subst h; exact ⟨_, rfl⟩
  · split
    · rename_i h; subst h; exact ⟨_, rfl⟩
    · split
      · rename_i h; subst h; exact ⟨_, rfl⟩
      · split
        · rename_i h; subst h; exact ⟨_, rfl⟩
        · split
          · rename_i h; subst h; exact ⟨_, rfl⟩
          · split
            · rename_i h; subst h; exact ⟨_, rfl⟩
            · rename_i h1 h2 h3 h4 h5 h6
              refine ⟨0, ?_⟩
              have e1 : (k == 1) = false := by simpa using h1
              have e2 : (k == 2) = false := by simpa using h2
              have e3 : (k == 3) = false := by simpa using h3
              have e4 : (k == 4) = false := by simpa using h4
              have e5 : (k == 5) = false := by simpa using h5
              have e6 : (k == 6) = false := by simpa using h6
              simp [kEs, Instr.findNow, Instr.sameNow, e1, e2, e3, e4, e5, e6]
theorem klook {w : World} {b : Nat} (hb : MapAt w b kEs 6) (k : Int) : ∃ Z, (Instr.lookup 77 (.map (some b)) (.int .i64 k) true).run Try.prog w = .ok (.tuple #[((kfn k).map fnv).getD Z, .bool (kfn k).isSome]) w := by
  obtain ⟨i, hi⟩ := kfind k
  obtain ⟨Z, h⟩ := run_look hb k Try.underlying29 hi
  refine ⟨Z, h.trans ?_⟩
  cases kfn k <;> rfl

section
variable (mb : Nat) (ok : Nat → Prop)
/-- What right tells of one branch. -/
def RightAt (k : Tr) : Prop := ∀ (cs : List Value) (w : World), Br w ok cs k → MapAt w mb kEs 6 → Calls Try.prog 57 #[.agg cs.toArray, .map (some mb)] w fun e w' => e = .returned (.bool (rightT k)) ∧ Qt w w'
variable {mb ok}
set_option maxHeartbeats 1000000 in
theorem clo_any (k : Tr) (H : RightAt mb ok k) (cs : List Value) (p : Nat) (w : World) (hb : Br w ok cs k) (hm : MapAt w mb kEs 6) (hp : w.cell? ⟨p, 0, none⟩ = some (.map (some mb))) :
    Calls Try.prog 74 #[.agg cs.toArray, .pointer (some ⟨p, 0, none⟩)] w fun e w' => e = .returned (.bool (!rightT k)) ∧ Qt w w' := by
  obtain ⟨gs, hgs⟩ : ∃ fs, Try.prog.underlying 60 = some (.struct fs) := ⟨_, Try.underlying60⟩
  have h7 := hb.len
  have hq : ∀ o, Qt w (w.alloc o) := fun o => (Qt.refl w).alloc o
  have c1 : ∀ o, (w.alloc o).cell? ⟨p, 0, none⟩ = some (.map (some mb)) := fun o => cell_al hp (blk_of_cell hp) o
  have HC := Lib.hid (fun o => H cs (w.alloc o) (hb.qt (hq o)) (hm.qt (hq o)))
  have HGS := Lib.hid hgs
  clear H hb hm hp hgs
  go_enter Try.func74, Try.ntmps74
  go_wp2_with (first
    | (refine armLd rfl 60 (.tmp 2) rfl w.heap.size rfl (heap_alloc_new w _) (.struct gs) HGS.out rfl (by rw [h7]; kernel_rfl) ?_)
    | (go_at_call 57; refine (HC.out _).mono ?_; rintro e w2 ⟨rfl, q2⟩; (have HQ2 := Lib.hid q2); clear q2))
  go_ret
  exact ⟨rfl, (hq _).trans HQ2.out⟩
set_option maxRecDepth 100000 in
set_option maxHeartbeats 1000000 in
theorem index_any (ks : List Tr) (A : Option Addr) (c p : Nat) (cf : Nat → List Value) (w : World) (hkl : ks.length ≤ 1000000)
    (hK : ∀ i k, ks[i]? = some k → ∃ b off, A = some ⟨b, off, none⟩ ∧ w.rangeAt b (off + i * 7) (cf i) ∧ Br w ok (cf i) k) (H : ∀ k ∈ ks, RightAt mb ok k)
    (hm : MapAt w mb kEs 6) (hp : w.cell? ⟨p, 0, none⟩ = some (.map (some mb))) :
    Calls Try.prog 89 #[.slice A ks.length c, .func (.func 74) #[] #[.pointer (some ⟨p, 0, none⟩)]] w fun e w' => ∃ r : Int, e = .returned (.int .i64 r) ∧ decide (0 ≤ r) = !rights ks ∧ Qt w w' := by
  obtain ⟨gs, hgs⟩ : ∃ fs, Try.prog.underlying 60 = some (.struct fs) := ⟨_, Try.underlying60⟩
  have HK := Lib.hid hK
  have HH := Lib.hid H
  have HM := Lib.hid hm
  have HP := Lib.hid hp
  have HGS := Lib.hid hgs
  clear hK H hm hp hgs
  go_enter Try.func89, Try.ntmps89
  go_wp2
  go_loopw [8] (fun i wr => ∃ j : Nat, j ≤ ks.length ∧ i = .int .i64 j ∧ rights (ks.take j) = true ∧ Qt w wr) (fun i _ => ks.length - (intOf i).toNat)
  case atStart => exact ⟨0, by omega, rfl, rfl, Qt.refl w⟩
  case round =>
    obtain ⟨j, hj, rfl, he, hq⟩ := hrel
    have HE := Lib.hid he
    have HQ := Lib.hid hq
    clear he
    by_cases hlt : j < ks.length
    · obtain ⟨k, hk⟩ : ∃ k, ks[j]? = some k := ⟨_, List.getElem?_eq_getElem hlt⟩
      obtain ⟨b, off, rfl, hr, hb⟩ := HK.out j k hk
      have h7 := hb.len
      have HR := Lib.hid (rangeQt hr hq)
      have HC := Lib.hid (clo_any k (HH.out k (List.mem_of_getElem? hk)) (cf j) p wr (hb.qt hq) (HM.out.qt hq) ((hq.cell (p := ⟨p, 0, none⟩) (blk_of_cell HP.out)).trans HP.out))
      have HT := Lib.hid (take_next hk)
      have hsp : ks = ks.take j ++ k :: ks.drop (j + 1) := by
        have e1 := List.take_append_drop j ks
        rw [List.drop_eq_getElem_cons hlt, show ks[j] = k from Option.some.inj ((List.getElem?_eq_getElem hlt).symm.trans hk)] at e1
        exact e1.symm
      have HSP := Lib.hid hsp
      clear hr hb hk hq hsp
      generalize cf j = ck at *
      cases hrt : rightT k with
      | true =>
        rw [hrt] at HC
        have HRT := Lib.hid hrt
        clear hrt
        go_wp2_with (first
          | (refine armLm rfl 60 (.tmp 14) rfl b (off + j * 7) rfl HR.out (.struct gs) HGS.out rfl (by rw [h7]; kernel_rfl) ?_)
          | (go_at_call 74; refine HC.out.mono ?_; rintro e w2 ⟨rfl, q2⟩; (have HQ2 := Lib.hid q2); clear q2))
        go_roundw
        case rel => exact ⟨j + 1, by omega, by go_num, by rw [HT.out, rights_app, HE.out]; simp [rights, HRT.out], HQ.out.trans HQ2.out⟩
        case measure => simp [intOf]; omega
      | false =>
        rw [hrt] at HC
        have HRT := Lib.hid hrt
        clear hrt
        go_wp2_with (first
          | (refine armLm rfl 60 (.tmp 14) rfl b (off + j * 7) rfl HR.out (.struct gs) HGS.out rfl (by rw [h7]; kernel_rfl) ?_)
          | (go_at_call 74; refine HC.out.mono ?_; rintro e w2 ⟨rfl, q2⟩; (have HQ2 := Lib.hid q2); clear q2))
        go_ret
        refine ⟨(j : Int), rfl, ?_, HQ.out.trans HQ2.out⟩
        have e : rights ks = false := by rw [HSP.out, rights_app]; simp [rights, HRT.out]
        rw [e]
        exact decide_eq_true (by omega)
    · obtain rfl : j = ks.length := by omega
      go_wp2
      go_ret
      refine ⟨-1, rfl, ?_, HQ.out⟩
      have he := HE.out
      rw [List.take_length] at he
      rw [he]; rfl
set_option maxHeartbeats 1000000 in
theorem contains_any (ks : List Tr) (A : Option Addr) (c p : Nat) (cf : Nat → List Value) (w : World) (hkl : ks.length ≤ 1000000)
    (hK : ∀ i k, ks[i]? = some k → ∃ b off, A = some ⟨b, off, none⟩ ∧ w.rangeAt b (off + i * 7) (cf i) ∧ Br w ok (cf i) k) (H : ∀ k ∈ ks, RightAt mb ok k)
    (hm : MapAt w mb kEs 6) (hp : w.cell? ⟨p, 0, none⟩ = some (.map (some mb))) :
    Calls Try.prog 73 #[.slice A ks.length c, .func (.func 74) #[] #[.pointer (some ⟨p, 0, none⟩)]] w fun e w' => e = .returned (.bool (!rights ks)) ∧ Qt w w' := by
  have HC := Lib.hid (index_any ks A c p cf w hkl hK H hm hp)
  clear hK H hm hp
  go_enter Try.func73, Try.ntmps73
  go_wp2_with (go_at_call 89; refine HC.out.mono ?_; rintro e w2 ⟨r, rfl, hr, q2⟩; (have HQ2 := Lib.hid q2); (have HR := Lib.hid hr); clear q2 hr)
  go_ret
  exact ⟨by rw [← HR.out]; rfl, HQ2.out⟩
end

section
variable {P : Program} {ops : Array Oper} {rest : List Oper} {o : Oper} {a : Act} {w : World} {Q : Exit → Act → World → Prop}
/-- A function value is called. -/
theorem armDyn (hgd : o.guard = none) (g x : Operand) {ts : Array TypeId} (ho : o.op = .call { callee := .value g, args := #[x], argTypes := ts }) (f : FuncId) (hg : a.eval g = .func (.func f) #[] #[]) (vx : Value) (hx : a.eval x = vx)
    (hcf : ∀ args w, (callFunc f args).run P w = .ok (.enter f args) w) {v : Value} (hc : Calls P f #[vx] w fun e w' => e = .returned v ∧ Qt w w') (h : ∀ w', Qt w w' → wpList P ops Q rest (a.put o.dst v) w') : wpList P ops Q (o :: rest) a w := by
  refine wpList_plain hgd fun K hK => wpCall (f := f) (args := #[vx]) (fun w => ?_) (fun u w' => u = v ∧ Qt w w') (hc.mono (by rintro e w' ⟨rfl, q⟩; exact ⟨_, rfl, rfl, q⟩)) (by rintro u w' ⟨rfl, q⟩; exact hK _ _ (h w' q))
  unfold execOp
  simp [ho, resolve, invoke, hg, hx, hcf, Deferred.ofValue]
theorem armLdG (ty : TypeId) (x : Operand) (ho : o.op = .load ty x) (g : Nat) (hx : a.eval x = .pointer (some ⟨g, 0, none⟩)) {t : TypeId} {cs : List Value} (hb : Blk w g t cs) (d : TypeDesc)
    (hu : P.underlying ty = some d) (hd : (match d with | .struct _ | .array _ _ => true | _ => false) = true) (hi : (P.info? ty).map (·.size) = some cs.length) (hw : Region.wanted o (yielded ops a.tmps) = true)
    (h : wpList P ops Q rest (a.put o.dst (.agg cs.toArray)) w) : wpList P ops Q (o :: rest) a w :=
  BigFrame.wpList_want hw fun _ hK => wp_load_row ty x ho g hx t cs.toArray (0, 0) d hb hu hd (by simpa using hi) (hK _ _ h)
theorem armVal (v : Value) (hrun : (execOp a.eval o).run P w = .ok (.value v) w) (hw : Region.wanted o (yielded ops a.tmps) = true) (h : wpList P ops Q rest (a.put o.dst v) w) : wpList P ops Q (o :: rest) a w :=
  BigFrame.wpList_want hw fun _ hK => wpRun hrun (hK _ _ h)
end
attribute [local go_sem high] eqR0
theorem eqBin (a b : Int) (s : ByteArray) (w : World) : (binOp .eql 96 (.agg #[.int .i64 a, .int .u64 b, .string s]) (.agg #[.int .i64 0, .int .u64 0, .string ⟨#[]⟩])).run Try.prog w = .ok (.bool (lz a b s)) w := by
  go_simp
set_option maxRecDepth 100000 in
set_option maxHeartbeats 1000000 in
theorem right_any (mb : Nat) (ok : Nat → Prop) : ∀ (N : Nat) (t : Tr), t.flat.length ≤ N → t.flat.length ≤ 1000000 → RightAt mb ok t := by
  intro N
  induction N with
  | zero => intro t h; have := flat_pos t; omega
  | succ N ih =>
    intro t hN hm cs w hbr hma
    obtain ⟨n, ks⟩ := t
    obtain ⟨A, c, avA, avc, cf, hcs, h7, h1, h5, hc, hK, _⟩ := hbr.parts
    obtain ⟨gs, hgs⟩ : ∃ fs, Try.prog.underlying 60 = some (.struct fs) := ⟨_, Try.underlying60⟩
    obtain ⟨rs, hrs⟩ : ∃ fs, Try.prog.underlying 96 = some (.struct fs) := ⟨_, Try.underlying96⟩
    have e1 : (Tr.mk n ks).flat.length = (flats ks).length + 1 := by simp [Tr.flat]
    have e3 := flats_len ks
    have hkn : ks.length ≤ 1000000 := by omega
    have hih : ∀ k ∈ ks, RightAt mb ok k := fun k hk => ih k (by have := kid_lt (n := n) hk; omega) (by have := kid_lt (n := n) hk; omega)
    have hmf : ∀ (fn : Fn) (first cap : Array Value) (w : World), (Instr.makeFunc fn first cap).run Try.prog w = .ok (.func fn first cap) w := fun _ _ _ _ => rfl
    obtain ⟨w1, hw1⟩ : ∃ w1, w1 = (w.alloc (.cells cs.toArray 60)).alloc (.cells #[.map (some mb)] 77) := ⟨_, rfl⟩
    have hq1 : Qt w w1 := by rw [hw1]; exact ((Qt.refl w).alloc _).alloc _
    have hb1 : Blk w1 w.heap.size 60 cs := by rw [hw1]; exact (show Blk (w.alloc (.cells cs.toArray 60)) _ _ cs from heap_alloc_new w _).alloc _
    have c0 : w1.cell? ⟨w.heap.size, 0, none⟩ = some (.int .i64 n.f0) := (hb1.cell 0).trans (by rw [hcs]; rfl)
    have cm : w1.cell? ⟨w.heap.size + 1, 0, none⟩ = some (.map (some mb)) := by rw [hw1]; simp [go_sem]
    obtain ⟨Z, hlk⟩ := klook (hma.qt hq1) n.f0
    have HBR := Lib.hid hbr
    have HMA := Lib.hid hma
    have HIH := Lib.hid hih
    have HKK := Lib.hid hK
    have HQ1 := Lib.hid hq1
    have HB1 := Lib.hid hb1
    have HGS := Lib.hid hgs
    have HRS := Lib.hid hrs
    have HC5 := Lib.hid h5
    have HCM := Lib.hid cm
    have HM := Lib.hid hm
    clear ih hih hbr hma hK hq1 hb1 hgs hrs hcs h5 hN hm e1 e3 cm
    subst hw1
    show Calls _ _ _ _ fun e w' => e = .returned (.bool (kOk n ks && rights ks)) ∧ Qt w w'
    cases hkf : kfn n.f0 with
    | none =>
      have hko : kOk n ks = false := by unfold kOk; rw [hkf]; rfl
      rw [hko]
      rw [hkf] at hlk
      clear hkf hko
      go_enter Try.func57, Try.ntmps57
      go_wp2
      go_ret
      exact ⟨rfl, HQ1.out⟩
    | some f =>
      have hko : kOk n ks = (kQ n ks && lz (kA n) (kB n) (kS n)) := by unfold kOk; rw [hkf]; rfl
      rw [hko]
      rw [hkf] at hlk
      replace hlk : Sem.run Try.prog (Instr.lookup 77 (.map (some mb)) (.int .i64 n.f0) true) ((w.alloc (.cells cs.toArray 60)).alloc (.cells #[.map (some mb)] 77)) = .ok (.tuple #[.func (.func f) #[] #[], .bool true]) ((w.alloc (.cells cs.toArray 60)).alloc (.cells #[.map (some mb)] 77)) := hlk
      have HKC := Lib.hid (fun w' (q : Qt w w') => kind_any n ks cs ok f hkf w' HM.out (HBR.out.qt q))
      have hcf : ∀ args w, (callFunc f args).run Try.prog w = .ok (.enter f args) w := by
        intro args w
        unfold kfn at hkf
        repeat' split at hkf
        all_goals first | (cases hkf; done) | (cases hkf; kernel_rfl)
      clear hkf hko
      cases hq : kQ n ks with
      | false =>
        rw [hq] at HKC
        rw [Bool.false_and, Bool.false_and]
        clear hq
        go_enter Try.func57, Try.ntmps57
        go_wp2_with (first
          | (refine armLd rfl 60 (.tmp 2) rfl w.heap.size rfl HB1.out (.struct gs) HGS.out rfl (by rw [h7]; kernel_rfl) ?_)
          | (refine armDyn rfl (.tmp 20) (.tmp 21) rfl f rfl (.agg cs.toArray) rfl hcf (HKC.out _ HQ1.out) ?_; rintro w3 q3; (have HQ3 := Lib.hid q3); clear q3)
          | (refine armSt rfl 96 (.tmp 7) (.tmp 23) rfl w3.heap.size [.int .i64 (kA n), .int .u64 (kB n), .string (kS n)] rfl rfl (t := 96) (old := [.int .i64 0, .int .u64 0, .string ⟨#[]⟩]) (heap_alloc_new w3 _) (by kernel_rfl) rfl (by intro u hu; simp only [List.mem_cons, List.not_mem_nil, or_false] at hu; rcases hu with rfl | rfl | rfl <;> rfl) ?_; intro w4 og4 hz4 hb4; (have hq34 : Qt w3 w4 := og4.qt ((Qt.refl w3).alloc _) (Nat.le_refl _)); (have hq4 : Qt w w4 := (HQ1.out.trans HQ3.out).trans hq34); (have hb14 := HB1.out.qt (HQ3.out.trans hq34)); (have c5 : w4.cell? ⟨w.heap.size, 5, none⟩ = some (.slice A ks.length c) := (hb14.cell 5).trans HC5.out); (have HQ4 := Lib.hid hq4); (have HB4 := Lib.hid hb4); (have HCT := Lib.hid (contains_any ks A c (w.heap.size + 1) cf w4 hkn (fun i k hk => let ⟨b, off, e, hr, hb⟩ := HKK.out i k hk; ⟨b, off, e, rangeQt hr hq4, hb.qt hq4⟩) HIH.out (HMA.out.qt hq4) (((HQ3.out.trans hq34).cell (p := ⟨w.heap.size + 1, 0, none⟩) (blk_of_cell HCM.out)).trans HCM.out))); clear og4 hb4 hq4 hq34 hb14)
          | (refine armLdG 96 (.tmp 7) rfl w3.heap.size rfl HB4.out (.struct rs) HRS.out rfl (by kernel_rfl) rfl ?_)
          | (go_at_call 73; refine HCT.out.mono ?_; rintro e w5 ⟨rfl, q5⟩; (have HQ5 := Lib.hid q5); clear q5))
        go_ret
        exact ⟨rfl, HQ4.out⟩
      | true =>
        rw [hq] at HKC
        rw [Bool.true_and]
        clear hq
        cases hz : lz (kA n) (kB n) (kS n) with
        | false =>
          rw [Bool.false_and]
          go_enter Try.func57, Try.ntmps57
          go_wp2_with (first
            | (refine armLd rfl 60 (.tmp 2) rfl w.heap.size rfl HB1.out (.struct gs) HGS.out rfl (by rw [h7]; kernel_rfl) ?_)
            | (refine armDyn rfl (.tmp 20) (.tmp 21) rfl f rfl (.agg cs.toArray) rfl hcf (HKC.out _ HQ1.out) ?_; rintro w3 q3; (have HQ3 := Lib.hid q3); clear q3)
            | (refine armSt rfl 96 (.tmp 7) (.tmp 23) rfl w3.heap.size [.int .i64 (kA n), .int .u64 (kB n), .string (kS n)] rfl rfl (t := 96) (old := [.int .i64 0, .int .u64 0, .string ⟨#[]⟩]) (heap_alloc_new w3 _) (by kernel_rfl) rfl (by intro u hu; simp only [List.mem_cons, List.not_mem_nil, or_false] at hu; rcases hu with rfl | rfl | rfl <;> rfl) ?_; intro w4 og4 hz4 hb4; (have hq34 : Qt w3 w4 := og4.qt ((Qt.refl w3).alloc _) (Nat.le_refl _)); (have hq4 : Qt w w4 := (HQ1.out.trans HQ3.out).trans hq34); (have hb14 := HB1.out.qt (HQ3.out.trans hq34)); (have c5 : w4.cell? ⟨w.heap.size, 5, none⟩ = some (.slice A ks.length c) := (hb14.cell 5).trans HC5.out); (have HQ4 := Lib.hid hq4); (have HB4 := Lib.hid hb4); (have HCT := Lib.hid (contains_any ks A c (w.heap.size + 1) cf w4 hkn (fun i k hk => let ⟨b, off, e, hr, hb⟩ := HKK.out i k hk; ⟨b, off, e, rangeQt hr hq4, hb.qt hq4⟩) HIH.out (HMA.out.qt hq4) (((HQ3.out.trans hq34).cell (p := ⟨w.heap.size + 1, 0, none⟩) (blk_of_cell HCM.out)).trans HCM.out))); clear og4 hb4 hq4 hq34 hb14)
            | (refine armLdG 96 (.tmp 7) rfl w3.heap.size rfl HB4.out (.struct rs) HRS.out rfl (by kernel_rfl) rfl ?_)
            | (go_at_call 73; refine HCT.out.mono ?_; rintro e w5 ⟨rfl, q5⟩; (have HQ5 := Lib.hid q5); clear q5))
          go_ret
          exact ⟨rfl, HQ4.out⟩
        | true =>
          rw [Bool.true_and]
          go_enter Try.func57, Try.ntmps57
          go_wp2_with (first
            | (refine armLd rfl 60 (.tmp 2) rfl w.heap.size rfl HB1.out (.struct gs) HGS.out rfl (by rw [h7]; kernel_rfl) ?_)
            | (refine armDyn rfl (.tmp 20) (.tmp 21) rfl f rfl (.agg cs.toArray) rfl hcf (HKC.out _ HQ1.out) ?_; rintro w3 q3; (have HQ3 := Lib.hid q3); clear q3)
            | (refine armSt rfl 96 (.tmp 7) (.tmp 23) rfl w3.heap.size [.int .i64 (kA n), .int .u64 (kB n), .string (kS n)] rfl rfl (t := 96) (old := [.int .i64 0, .int .u64 0, .string ⟨#[]⟩]) (heap_alloc_new w3 _) (by kernel_rfl) rfl (by intro u hu; simp only [List.mem_cons, List.not_mem_nil, or_false] at hu; rcases hu with rfl | rfl | rfl <;> rfl) ?_; intro w4 og4 hz4 hb4; (have hq34 : Qt w3 w4 := og4.qt ((Qt.refl w3).alloc _) (Nat.le_refl _)); (have hq4 : Qt w w4 := (HQ1.out.trans HQ3.out).trans hq34); (have hb14 := HB1.out.qt (HQ3.out.trans hq34)); (have c5 : w4.cell? ⟨w.heap.size, 5, none⟩ = some (.slice A ks.length c) := (hb14.cell 5).trans HC5.out); (have HQ4 := Lib.hid hq4); (have HB4 := Lib.hid hb4); (have HCT := Lib.hid (contains_any ks A c (w.heap.size + 1) cf w4 hkn (fun i k hk => let ⟨b, off, e, hr, hb⟩ := HKK.out i k hk; ⟨b, off, e, rangeQt hr hq4, hb.qt hq4⟩) HIH.out (HMA.out.qt hq4) (((HQ3.out.trans hq34).cell (p := ⟨w.heap.size + 1, 0, none⟩) (blk_of_cell HCM.out)).trans HCM.out))); clear og4 hb4 hq4 hq34 hb14)
            | (refine armLdG 96 (.tmp 7) rfl w3.heap.size rfl HB4.out (.struct rs) HRS.out rfl (by kernel_rfl) rfl ?_)
            | (go_at_call 73; refine HCT.out.mono ?_; rintro e w5 ⟨rfl, q5⟩; (have HQ5 := Lib.hid q5); clear q5))
          go_ret
          exact ⟨by simp, HQ4.out.trans HQ5.out⟩
end Go.Proofs.Ytipgpnkdgofdeaa.Tm
