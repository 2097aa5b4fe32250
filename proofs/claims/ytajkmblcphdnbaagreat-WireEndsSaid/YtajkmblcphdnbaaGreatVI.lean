import Derived.Test.YtajkmblcphdnbaaGreatVH
/-! put, wanted: printed by genlaw.py. -/
namespace Go.Proofs.YtajkmblcphdnbaaGreat
open Go.RowKit
set_option linter.unusedVariables false
set_option linter.unusedSimpArgs false

/-- A call. -/
structure PutD where
  what : Int
  n : Int
  u : Nat
  h : List Nat
  b : List Nat
  s : List Nat
structure PutD.Ok (x : PutD) : Prop where
  w0 : -9223372036854775808 ≤ x.what
  w1 : x.what < 9223372036854775808
  n0 : -9223372036854775808 ≤ x.n
  n1 : x.n < 9223372036854775808
  u1 : x.u < 18446744073709551616
  h32 : x.h.length = 32
  h8 : ∀ z ∈ x.h, z < 256
  b8 : ∀ z ∈ x.b, z < 256
  s8 : ∀ z ∈ x.s, z < 256
  sl : x.s.length ≤ 140737488351232
  bl : x.b.length ≤ 140737488351232
/-- Its cells. -/
def putC (x : PutD) (bv : Value) : List Value := [.int .i64 x.what, .int .i64 x.n, .int .u64 (x.u : Int)] ++ (u8s x.h ++ [bv, .string (str x.s)])
theorem putC_35 (x : PutD) (bv : Value) (h : x.h.length = 32) : (putC x bv)[35]? = some bv := by
  rw [putC, List.getElem?_append_right (by simp), List.getElem?_append_right (by simp [u8s_len, h])]; simp [u8s_len, h]
theorem putC_36 (x : PutD) (bv : Value) (h : x.h.length = 32) : (putC x bv)[36]? = some (.string (str x.s)) := by
  rw [putC, List.getElem?_append_right (by simp), List.getElem?_append_right (by simp [u8s_len, h])]; simp [u8s_len, h]
theorem putC_h (x : PutD) (bv : Value) (w : World) (g : Nat) (t : TypeId) (hb : Blk w g t (putC x bv)) : w.rangeAt g 3 (u8s x.h) := by
  intro j v hv
  rw [hb.cell, putC, List.getElem?_append_right (by simp)]
  have hj := (List.getElem?_eq_some_iff.1 hv).1
  rw [List.getElem?_append_left (by simp; omega)]
  simpa [Nat.add_comm] using hv
/-- What it leaves. -/
def putK (x : PutD) (st : Option (List Nat)) : Nat → Option (List Nat)
  | 0 => wBel 1 x.n st
  | 1 => wBel 2 x.n st
  | 2 => wBel 4 x.n st
  | 3 => st.map (· ++ beB 8 x.u)
  | 4 => st.map (· ++ beB 8 x.u)
  | 5 => st.map (· ++ x.h)
  | 6 => st.map (· ++ x.b)
  | 7 => (wBel 2 (x.s.length : Int) st).map (· ++ x.s)
  | 8 => wBel 1 (if (x.n == 1) = true then 1 else 0) st
  | _ => if x.n = 7 then none else st
def pk (x : PutD) : Nat := (x.what % 10).toNat
theorem pk_lt (x : PutD) : pk x < 10 := by unfold pk; omega
theorem pk_int (x : PutD) (k : Nat) (h : pk x = k) : x.what % 10 = (k : Int) := by unfold pk at h; omega
theorem fr0_any {t : TypeId} {f : Bool → Value → List Value} {S : Nat → Prop} {w w' : World} {a : Nat} {st : Option (List Nat)} (h : WrL t f S w a st) (q : Qt w w') : WrL t f (Fr S w w') w' a st ∧ Gs S w w' :=
  ⟨(h.qt q).fr, Gs.of_qt q⟩
set_option maxRecDepth 100000 in
set_option maxHeartbeats 1000000 in
theorem put_0 (S : Nat → Prop) (p : Value) (m : RM) (x : PutD) (bv : Value) (st : Option (List Nat)) (w : World) (hW : WrX S w p m st) (hx : x.Ok) (hb : Rd w bv x.b.length (u8s x.b)) (hl : lenO st + 40 + x.b.length ≤ 140737488355328 ∧ lenO st + 40 + x.s.length ≤ 140737488355328) (hk : x.what % 10 = 0) :
    Calls Tryz.prog 9 #[p, .agg (putC x bv).toArray] w fun e w' => e = .returned (.tuple #[]) ∧ WrX (Fr S w w') w' p m (putK x st 0) ∧ Gs S w w' := by
  have hq0 : Qt w (w.alloc (.cells (putC x bv).toArray 28)) := (Qt.refl w).alloc _
  have hblk : Blk (w.alloc (.cells (putC x bv).toArray 28)) w.heap.size 28 (putC x bv) := heap_alloc_new w _
  have hW1 := hW.qt hq0
  have hlt := hW.lt
  have HP := Lib.hid (fun w => pick_any x.what 10 w hx.w0 hx.w1 (by omega) (by omega))
  have hk' : Value.int .i64 (x.what % 10) = .int .i64 0 := by rw [hk]
  have HK := Lib.hid hk'
  have hn0 := hx.n0
  have hn1 := hx.n1
  have c0 : (w.alloc (.cells (putC x bv).toArray 28)).cell? ⟨w.heap.size, 0, none⟩ = some (.int .i64 x.what) := hblk.cell 0
  have c1 : (w.alloc (.cells (putC x bv).toArray 28)).cell? ⟨w.heap.size, 1, none⟩ = some (.int .i64 x.n) := hblk.cell 1
  have c2 : (w.alloc (.cells (putC x bv).toArray 28)).cell? ⟨w.heap.size, 2, none⟩ = some (.int .u64 (x.u : Int)) := hblk.cell 2
  have c3 : (w.alloc (.cells (putC x bv).toArray 28)).cell? ⟨w.heap.size, 35, none⟩ = some bv := (hblk.cell 35).trans (putC_35 x bv hx.h32)
  have c4 : (w.alloc (.cells (putC x bv).toArray 28)).cell? ⟨w.heap.size, 36, none⟩ = some (.string (str x.s)) := (hblk.cell 36).trans (putC_36 x bv hx.h32)
  have HC := Lib.hid (wU8_x S p m x.n st _ hW1 hn0 hn1 (by omega))
  have HLT := Lib.hid hlt
  obtain ⟨ba, bc, rfl, _⟩ := hb
  clear hW hx hW1 hq0 hblk hlt hl hk hk'
  go_enter Tryz.func9, Tryz.ntmps9
  go_wp2_with (first
    | (go_at_call 24; refine (HP.out _).mono ?_; rintro e w1 ⟨rfl, rfl⟩; rw [HK.out])
    | (go_at_call 25; refine HC.out.mono ?_; rintro e w' ⟨rfl, hw, hg⟩; (have HW := Lib.hid hw); (have HG := Lib.hid hg); clear hw hg))
  go_end0
  exact ⟨rfl, xfr_alloc HW.out HG.out HLT.out⟩
set_option maxRecDepth 100000 in
set_option maxHeartbeats 1000000 in
theorem put_1 (S : Nat → Prop) (p : Value) (m : RM) (x : PutD) (bv : Value) (st : Option (List Nat)) (w : World) (hW : WrX S w p m st) (hx : x.Ok) (hb : Rd w bv x.b.length (u8s x.b)) (hl : lenO st + 40 + x.b.length ≤ 140737488355328 ∧ lenO st + 40 + x.s.length ≤ 140737488355328) (hk : x.what % 10 = 1) :
    Calls Tryz.prog 9 #[p, .agg (putC x bv).toArray] w fun e w' => e = .returned (.tuple #[]) ∧ WrX (Fr S w w') w' p m (putK x st 1) ∧ Gs S w w' := by
  have hq0 : Qt w (w.alloc (.cells (putC x bv).toArray 28)) := (Qt.refl w).alloc _
  have hblk : Blk (w.alloc (.cells (putC x bv).toArray 28)) w.heap.size 28 (putC x bv) := heap_alloc_new w _
  have hW1 := hW.qt hq0
  have hlt := hW.lt
  have HP := Lib.hid (fun w => pick_any x.what 10 w hx.w0 hx.w1 (by omega) (by omega))
  have hk' : Value.int .i64 (x.what % 10) = .int .i64 1 := by rw [hk]
  have HK := Lib.hid hk'
  have hn0 := hx.n0
  have hn1 := hx.n1
  have c0 : (w.alloc (.cells (putC x bv).toArray 28)).cell? ⟨w.heap.size, 0, none⟩ = some (.int .i64 x.what) := hblk.cell 0
  have c1 : (w.alloc (.cells (putC x bv).toArray 28)).cell? ⟨w.heap.size, 1, none⟩ = some (.int .i64 x.n) := hblk.cell 1
  have c2 : (w.alloc (.cells (putC x bv).toArray 28)).cell? ⟨w.heap.size, 2, none⟩ = some (.int .u64 (x.u : Int)) := hblk.cell 2
  have c3 : (w.alloc (.cells (putC x bv).toArray 28)).cell? ⟨w.heap.size, 35, none⟩ = some bv := (hblk.cell 35).trans (putC_35 x bv hx.h32)
  have c4 : (w.alloc (.cells (putC x bv).toArray 28)).cell? ⟨w.heap.size, 36, none⟩ = some (.string (str x.s)) := (hblk.cell 36).trans (putC_36 x bv hx.h32)
  have HC := Lib.hid (wU16_x S p m x.n st _ hW1 hn0 hn1 (by omega))
  have HLT := Lib.hid hlt
  obtain ⟨ba, bc, rfl, _⟩ := hb
  clear hW hx hW1 hq0 hblk hlt hl hk hk'
  go_enter Tryz.func9, Tryz.ntmps9
  go_wp2_with (first
    | (go_at_call 24; refine (HP.out _).mono ?_; rintro e w1 ⟨rfl, rfl⟩; rw [HK.out])
    | (go_at_call 16; refine HC.out.mono ?_; rintro e w' ⟨rfl, hw, hg⟩; (have HW := Lib.hid hw); (have HG := Lib.hid hg); clear hw hg))
  go_end0
  exact ⟨rfl, xfr_alloc HW.out HG.out HLT.out⟩
set_option maxRecDepth 100000 in
set_option maxHeartbeats 1000000 in
theorem put_2 (S : Nat → Prop) (p : Value) (m : RM) (x : PutD) (bv : Value) (st : Option (List Nat)) (w : World) (hW : WrX S w p m st) (hx : x.Ok) (hb : Rd w bv x.b.length (u8s x.b)) (hl : lenO st + 40 + x.b.length ≤ 140737488355328 ∧ lenO st + 40 + x.s.length ≤ 140737488355328) (hk : x.what % 10 = 2) :
    Calls Tryz.prog 9 #[p, .agg (putC x bv).toArray] w fun e w' => e = .returned (.tuple #[]) ∧ WrX (Fr S w w') w' p m (putK x st 2) ∧ Gs S w w' := by
  have hq0 : Qt w (w.alloc (.cells (putC x bv).toArray 28)) := (Qt.refl w).alloc _
  have hblk : Blk (w.alloc (.cells (putC x bv).toArray 28)) w.heap.size 28 (putC x bv) := heap_alloc_new w _
  have hW1 := hW.qt hq0
  have hlt := hW.lt
  have HP := Lib.hid (fun w => pick_any x.what 10 w hx.w0 hx.w1 (by omega) (by omega))
  have hk' : Value.int .i64 (x.what % 10) = .int .i64 2 := by rw [hk]
  have HK := Lib.hid hk'
  have hn0 := hx.n0
  have hn1 := hx.n1
  have c0 : (w.alloc (.cells (putC x bv).toArray 28)).cell? ⟨w.heap.size, 0, none⟩ = some (.int .i64 x.what) := hblk.cell 0
  have c1 : (w.alloc (.cells (putC x bv).toArray 28)).cell? ⟨w.heap.size, 1, none⟩ = some (.int .i64 x.n) := hblk.cell 1
  have c2 : (w.alloc (.cells (putC x bv).toArray 28)).cell? ⟨w.heap.size, 2, none⟩ = some (.int .u64 (x.u : Int)) := hblk.cell 2
  have c3 : (w.alloc (.cells (putC x bv).toArray 28)).cell? ⟨w.heap.size, 35, none⟩ = some bv := (hblk.cell 35).trans (putC_35 x bv hx.h32)
  have c4 : (w.alloc (.cells (putC x bv).toArray 28)).cell? ⟨w.heap.size, 36, none⟩ = some (.string (str x.s)) := (hblk.cell 36).trans (putC_36 x bv hx.h32)
  have HC := Lib.hid (wU32_x S p m x.n st _ hW1 hn0 hn1 (by omega))
  have HLT := Lib.hid hlt
  obtain ⟨ba, bc, rfl, _⟩ := hb
  clear hW hx hW1 hq0 hblk hlt hl hk hk'
  go_enter Tryz.func9, Tryz.ntmps9
  go_wp2_with (first
    | (go_at_call 24; refine (HP.out _).mono ?_; rintro e w1 ⟨rfl, rfl⟩; rw [HK.out])
    | (go_at_call 26; refine HC.out.mono ?_; rintro e w' ⟨rfl, hw, hg⟩; (have HW := Lib.hid hw); (have HG := Lib.hid hg); clear hw hg))
  go_end0
  exact ⟨rfl, xfr_alloc HW.out HG.out HLT.out⟩
set_option maxRecDepth 100000 in
set_option maxHeartbeats 1000000 in
theorem put_3 (S : Nat → Prop) (p : Value) (m : RM) (x : PutD) (bv : Value) (st : Option (List Nat)) (w : World) (hW : WrX S w p m st) (hx : x.Ok) (hb : Rd w bv x.b.length (u8s x.b)) (hl : lenO st + 40 + x.b.length ≤ 140737488355328 ∧ lenO st + 40 + x.s.length ≤ 140737488355328) (hk : x.what % 10 = 3) :
    Calls Tryz.prog 9 #[p, .agg (putC x bv).toArray] w fun e w' => e = .returned (.tuple #[]) ∧ WrX (Fr S w w') w' p m (putK x st 3) ∧ Gs S w w' := by
  have hq0 : Qt w (w.alloc (.cells (putC x bv).toArray 28)) := (Qt.refl w).alloc _
  have hblk : Blk (w.alloc (.cells (putC x bv).toArray 28)) w.heap.size 28 (putC x bv) := heap_alloc_new w _
  have hW1 := hW.qt hq0
  have hlt := hW.lt
  have HP := Lib.hid (fun w => pick_any x.what 10 w hx.w0 hx.w1 (by omega) (by omega))
  have hk' : Value.int .i64 (x.what % 10) = .int .i64 3 := by rw [hk]
  have HK := Lib.hid hk'
  have hn0 := hx.n0
  have hn1 := hx.n1
  have c0 : (w.alloc (.cells (putC x bv).toArray 28)).cell? ⟨w.heap.size, 0, none⟩ = some (.int .i64 x.what) := hblk.cell 0
  have c1 : (w.alloc (.cells (putC x bv).toArray 28)).cell? ⟨w.heap.size, 1, none⟩ = some (.int .i64 x.n) := hblk.cell 1
  have c2 : (w.alloc (.cells (putC x bv).toArray 28)).cell? ⟨w.heap.size, 2, none⟩ = some (.int .u64 (x.u : Int)) := hblk.cell 2
  have c3 : (w.alloc (.cells (putC x bv).toArray 28)).cell? ⟨w.heap.size, 35, none⟩ = some bv := (hblk.cell 35).trans (putC_35 x bv hx.h32)
  have c4 : (w.alloc (.cells (putC x bv).toArray 28)).cell? ⟨w.heap.size, 36, none⟩ = some (.string (str x.s)) := (hblk.cell 36).trans (putC_36 x bv hx.h32)
  have HC := Lib.hid (wU64_x S p m x.u st _ hW1 hx.u1 (by omega))
  have HLT := Lib.hid hlt
  obtain ⟨ba, bc, rfl, _⟩ := hb
  clear hW hx hW1 hq0 hblk hlt hl hk hk'
  go_enter Tryz.func9, Tryz.ntmps9
  go_wp2_with (first
    | (go_at_call 24; refine (HP.out _).mono ?_; rintro e w1 ⟨rfl, rfl⟩; rw [HK.out])
    | (go_at_call 27; refine HC.out.mono ?_; rintro e w' ⟨rfl, hw, hg⟩; (have HW := Lib.hid hw); (have HG := Lib.hid hg); clear hw hg))
  go_end0
  exact ⟨rfl, xfr_alloc HW.out HG.out HLT.out⟩
set_option maxRecDepth 100000 in
set_option maxHeartbeats 1000000 in
theorem put_4 (S : Nat → Prop) (p : Value) (m : RM) (x : PutD) (bv : Value) (st : Option (List Nat)) (w : World) (hW : WrX S w p m st) (hx : x.Ok) (hb : Rd w bv x.b.length (u8s x.b)) (hl : lenO st + 40 + x.b.length ≤ 140737488355328 ∧ lenO st + 40 + x.s.length ≤ 140737488355328) (hk : x.what % 10 = 4) :
    Calls Tryz.prog 9 #[p, .agg (putC x bv).toArray] w fun e w' => e = .returned (.tuple #[]) ∧ WrX (Fr S w w') w' p m (putK x st 4) ∧ Gs S w w' := by
  have hq0 : Qt w (w.alloc (.cells (putC x bv).toArray 28)) := (Qt.refl w).alloc _
  have hblk : Blk (w.alloc (.cells (putC x bv).toArray 28)) w.heap.size 28 (putC x bv) := heap_alloc_new w _
  have hW1 := hW.qt hq0
  have hlt := hW.lt
  have HP := Lib.hid (fun w => pick_any x.what 10 w hx.w0 hx.w1 (by omega) (by omega))
  have hk' : Value.int .i64 (x.what % 10) = .int .i64 4 := by rw [hk]
  have HK := Lib.hid hk'
  have hn0 := hx.n0
  have hn1 := hx.n1
  have c0 : (w.alloc (.cells (putC x bv).toArray 28)).cell? ⟨w.heap.size, 0, none⟩ = some (.int .i64 x.what) := hblk.cell 0
  have c1 : (w.alloc (.cells (putC x bv).toArray 28)).cell? ⟨w.heap.size, 1, none⟩ = some (.int .i64 x.n) := hblk.cell 1
  have c2 : (w.alloc (.cells (putC x bv).toArray 28)).cell? ⟨w.heap.size, 2, none⟩ = some (.int .u64 (x.u : Int)) := hblk.cell 2
  have c3 : (w.alloc (.cells (putC x bv).toArray 28)).cell? ⟨w.heap.size, 35, none⟩ = some bv := (hblk.cell 35).trans (putC_35 x bv hx.h32)
  have c4 : (w.alloc (.cells (putC x bv).toArray 28)).cell? ⟨w.heap.size, 36, none⟩ = some (.string (str x.s)) := (hblk.cell 36).trans (putC_36 x bv hx.h32)
  have HC := Lib.hid (wI64_x S p m x.u st _ hW1 hx.u1 (by omega))
  have HLT := Lib.hid hlt
  obtain ⟨ba, bc, rfl, _⟩ := hb
  clear hW hx hW1 hq0 hblk hlt hl hk hk'
  go_enter Tryz.func9, Tryz.ntmps9
  go_wp2_with (first
    | (go_at_call 24; refine (HP.out _).mono ?_; rintro e w1 ⟨rfl, rfl⟩; rw [HK.out])
    | (go_at_call 28; refine HC.out.mono ?_; rintro e w' ⟨rfl, hw, hg⟩; (have HW := Lib.hid hw); (have HG := Lib.hid hg); clear hw hg))
  go_end0
  exact ⟨rfl, xfr_alloc HW.out HG.out HLT.out⟩
set_option maxRecDepth 100000 in
set_option maxHeartbeats 1000000 in
theorem put_5 (S : Nat → Prop) (p : Value) (m : RM) (x : PutD) (bv : Value) (st : Option (List Nat)) (w : World) (hW : WrX S w p m st) (hx : x.Ok) (hb : Rd w bv x.b.length (u8s x.b)) (hl : lenO st + 40 + x.b.length ≤ 140737488355328 ∧ lenO st + 40 + x.s.length ≤ 140737488355328) (hk : x.what % 10 = 5) :
    Calls Tryz.prog 9 #[p, .agg (putC x bv).toArray] w fun e w' => e = .returned (.tuple #[]) ∧ WrX (Fr S w w') w' p m (putK x st 5) ∧ Gs S w w' := by
  have hq0 : Qt w (w.alloc (.cells (putC x bv).toArray 28)) := (Qt.refl w).alloc _
  have hblk : Blk (w.alloc (.cells (putC x bv).toArray 28)) w.heap.size 28 (putC x bv) := heap_alloc_new w _
  have hW1 := hW.qt hq0
  have hlt := hW.lt
  have HP := Lib.hid (fun w => pick_any x.what 10 w hx.w0 hx.w1 (by omega) (by omega))
  have hk' : Value.int .i64 (x.what % 10) = .int .i64 5 := by rw [hk]
  have HK := Lib.hid hk'
  have hn0 := hx.n0
  have hn1 := hx.n1
  have c0 : (w.alloc (.cells (putC x bv).toArray 28)).cell? ⟨w.heap.size, 0, none⟩ = some (.int .i64 x.what) := hblk.cell 0
  have c1 : (w.alloc (.cells (putC x bv).toArray 28)).cell? ⟨w.heap.size, 1, none⟩ = some (.int .i64 x.n) := hblk.cell 1
  have c2 : (w.alloc (.cells (putC x bv).toArray 28)).cell? ⟨w.heap.size, 2, none⟩ = some (.int .u64 (x.u : Int)) := hblk.cell 2
  have c3 : (w.alloc (.cells (putC x bv).toArray 28)).cell? ⟨w.heap.size, 35, none⟩ = some bv := (hblk.cell 35).trans (putC_35 x bv hx.h32)
  have c4 : (w.alloc (.cells (putC x bv).toArray 28)).cell? ⟨w.heap.size, 36, none⟩ = some (.string (str x.s)) := (hblk.cell 36).trans (putC_36 x bv hx.h32)
  have HC := Lib.hid (wHash_x S p m x.h st _ hW1 hx.h32 hx.h8 (by omega))
  have HR := Lib.hid (putC_h x bv _ _ _ hblk)
  have H32 := Lib.hid hx.h32
  have HLT := Lib.hid hlt
  obtain ⟨ba, bc, rfl, _⟩ := hb
  clear hW hx hW1 hq0 hblk hlt hl hk hk'
  go_enter Tryz.func9, Tryz.ntmps9
  go_wp2_with (first
    | (refine wpList_load_mid rfl 25 (.tmp 46) rfl w.heap.size 3 rfl (u8s x.h) (.array 32 5) HR.out (by kernel_rfl) rfl (by rw [u8s_len, H32.out]; kernel_rfl) ?_)
    | (go_at_call 24; refine (HP.out _).mono ?_; rintro e w1 ⟨rfl, rfl⟩; rw [HK.out])
    | (go_at_call 29; refine HC.out.mono ?_; rintro e w' ⟨rfl, hw, hg⟩; (have HW := Lib.hid hw); (have HG := Lib.hid hg); clear hw hg))
  go_end0
  exact ⟨rfl, xfr_alloc HW.out HG.out HLT.out⟩
set_option maxRecDepth 100000 in
set_option maxHeartbeats 1000000 in
theorem put_6 (S : Nat → Prop) (p : Value) (m : RM) (x : PutD) (bv : Value) (st : Option (List Nat)) (w : World) (hW : WrX S w p m st) (hx : x.Ok) (hb : Rd w bv x.b.length (u8s x.b)) (hl : lenO st + 40 + x.b.length ≤ 140737488355328 ∧ lenO st + 40 + x.s.length ≤ 140737488355328) (hk : x.what % 10 = 6) :
    Calls Tryz.prog 9 #[p, .agg (putC x bv).toArray] w fun e w' => e = .returned (.tuple #[]) ∧ WrX (Fr S w w') w' p m (putK x st 6) ∧ Gs S w w' := by
  have hq0 : Qt w (w.alloc (.cells (putC x bv).toArray 28)) := (Qt.refl w).alloc _
  have hblk : Blk (w.alloc (.cells (putC x bv).toArray 28)) w.heap.size 28 (putC x bv) := heap_alloc_new w _
  have hW1 := hW.qt hq0
  have hlt := hW.lt
  have HP := Lib.hid (fun w => pick_any x.what 10 w hx.w0 hx.w1 (by omega) (by omega))
  have hk' : Value.int .i64 (x.what % 10) = .int .i64 6 := by rw [hk]
  have HK := Lib.hid hk'
  have hn0 := hx.n0
  have hn1 := hx.n1
  have c0 : (w.alloc (.cells (putC x bv).toArray 28)).cell? ⟨w.heap.size, 0, none⟩ = some (.int .i64 x.what) := hblk.cell 0
  have c1 : (w.alloc (.cells (putC x bv).toArray 28)).cell? ⟨w.heap.size, 1, none⟩ = some (.int .i64 x.n) := hblk.cell 1
  have c2 : (w.alloc (.cells (putC x bv).toArray 28)).cell? ⟨w.heap.size, 2, none⟩ = some (.int .u64 (x.u : Int)) := hblk.cell 2
  have c3 : (w.alloc (.cells (putC x bv).toArray 28)).cell? ⟨w.heap.size, 35, none⟩ = some bv := (hblk.cell 35).trans (putC_35 x bv hx.h32)
  have c4 : (w.alloc (.cells (putC x bv).toArray 28)).cell? ⟨w.heap.size, 36, none⟩ = some (.string (str x.s)) := (hblk.cell 36).trans (putC_36 x bv hx.h32)
  have HC := Lib.hid (wRaw_x S p m bv x.b st _ hW1 (hb.below hq0) hx.b8 (by omega))
  have HLT := Lib.hid hlt
  obtain ⟨ba, bc, rfl, _⟩ := hb
  clear hW hx hW1 hq0 hblk hlt hl hk hk'
  go_enter Tryz.func9, Tryz.ntmps9
  go_wp2_with (first
    | (go_at_call 24; refine (HP.out _).mono ?_; rintro e w1 ⟨rfl, rfl⟩; rw [HK.out])
    | (go_at_call 30; refine HC.out.mono ?_; rintro e w' ⟨rfl, hw, hg⟩; (have HW := Lib.hid hw); (have HG := Lib.hid hg); clear hw hg))
  go_end0
  exact ⟨rfl, xfr_alloc HW.out HG.out HLT.out⟩
set_option maxRecDepth 100000 in
set_option maxHeartbeats 1000000 in
theorem put_7 (S : Nat → Prop) (p : Value) (m : RM) (x : PutD) (bv : Value) (st : Option (List Nat)) (w : World) (hW : WrX S w p m st) (hx : x.Ok) (hb : Rd w bv x.b.length (u8s x.b)) (hl : lenO st + 40 + x.b.length ≤ 140737488355328 ∧ lenO st + 40 + x.s.length ≤ 140737488355328) (hk : x.what % 10 = 7) :
    Calls Tryz.prog 9 #[p, .agg (putC x bv).toArray] w fun e w' => e = .returned (.tuple #[]) ∧ WrX (Fr S w w') w' p m (putK x st 7) ∧ Gs S w w' := by
  have hq0 : Qt w (w.alloc (.cells (putC x bv).toArray 28)) := (Qt.refl w).alloc _
  have hblk : Blk (w.alloc (.cells (putC x bv).toArray 28)) w.heap.size 28 (putC x bv) := heap_alloc_new w _
  have hW1 := hW.qt hq0
  have hlt := hW.lt
  have HP := Lib.hid (fun w => pick_any x.what 10 w hx.w0 hx.w1 (by omega) (by omega))
  have hk' : Value.int .i64 (x.what % 10) = .int .i64 7 := by rw [hk]
  have HK := Lib.hid hk'
  have hn0 := hx.n0
  have hn1 := hx.n1
  have c0 : (w.alloc (.cells (putC x bv).toArray 28)).cell? ⟨w.heap.size, 0, none⟩ = some (.int .i64 x.what) := hblk.cell 0
  have c1 : (w.alloc (.cells (putC x bv).toArray 28)).cell? ⟨w.heap.size, 1, none⟩ = some (.int .i64 x.n) := hblk.cell 1
  have c2 : (w.alloc (.cells (putC x bv).toArray 28)).cell? ⟨w.heap.size, 2, none⟩ = some (.int .u64 (x.u : Int)) := hblk.cell 2
  have c3 : (w.alloc (.cells (putC x bv).toArray 28)).cell? ⟨w.heap.size, 35, none⟩ = some bv := (hblk.cell 35).trans (putC_35 x bv hx.h32)
  have c4 : (w.alloc (.cells (putC x bv).toArray 28)).cell? ⟨w.heap.size, 36, none⟩ = some (.string (str x.s)) := (hblk.cell 36).trans (putC_36 x bv hx.h32)
  have HC := Lib.hid (wText_x S p m x.s st _ hW1 hx.s8 hx.sl (by omega))
  have HLT := Lib.hid hlt
  obtain ⟨ba, bc, rfl, _⟩ := hb
  clear hW hx hW1 hq0 hblk hlt hl hk hk'
  go_enter Tryz.func9, Tryz.ntmps9
  go_wp2_with (first
    | (go_at_call 24; refine (HP.out _).mono ?_; rintro e w1 ⟨rfl, rfl⟩; rw [HK.out])
    | (go_at_call 17; refine HC.out.mono ?_; rintro e w' ⟨rfl, hw, hg⟩; (have HW := Lib.hid hw); (have HG := Lib.hid hg); clear hw hg))
  go_end0
  exact ⟨rfl, xfr_alloc HW.out HG.out HLT.out⟩
set_option maxRecDepth 100000 in
set_option maxHeartbeats 1000000 in
theorem put_8 (S : Nat → Prop) (p : Value) (m : RM) (x : PutD) (bv : Value) (st : Option (List Nat)) (w : World) (hW : WrX S w p m st) (hx : x.Ok) (hb : Rd w bv x.b.length (u8s x.b)) (hl : lenO st + 40 + x.b.length ≤ 140737488355328 ∧ lenO st + 40 + x.s.length ≤ 140737488355328) (hk : x.what % 10 = 8) :
    Calls Tryz.prog 9 #[p, .agg (putC x bv).toArray] w fun e w' => e = .returned (.tuple #[]) ∧ WrX (Fr S w w') w' p m (putK x st 8) ∧ Gs S w w' := by
  have hq0 : Qt w (w.alloc (.cells (putC x bv).toArray 28)) := (Qt.refl w).alloc _
  have hblk : Blk (w.alloc (.cells (putC x bv).toArray 28)) w.heap.size 28 (putC x bv) := heap_alloc_new w _
  have hW1 := hW.qt hq0
  have hlt := hW.lt
  have HP := Lib.hid (fun w => pick_any x.what 10 w hx.w0 hx.w1 (by omega) (by omega))
  have hk' : Value.int .i64 (x.what % 10) = .int .i64 8 := by rw [hk]
  have HK := Lib.hid hk'
  have hn0 := hx.n0
  have hn1 := hx.n1
  have c0 : (w.alloc (.cells (putC x bv).toArray 28)).cell? ⟨w.heap.size, 0, none⟩ = some (.int .i64 x.what) := hblk.cell 0
  have c1 : (w.alloc (.cells (putC x bv).toArray 28)).cell? ⟨w.heap.size, 1, none⟩ = some (.int .i64 x.n) := hblk.cell 1
  have c2 : (w.alloc (.cells (putC x bv).toArray 28)).cell? ⟨w.heap.size, 2, none⟩ = some (.int .u64 (x.u : Int)) := hblk.cell 2
  have c3 : (w.alloc (.cells (putC x bv).toArray 28)).cell? ⟨w.heap.size, 35, none⟩ = some bv := (hblk.cell 35).trans (putC_35 x bv hx.h32)
  have c4 : (w.alloc (.cells (putC x bv).toArray 28)).cell? ⟨w.heap.size, 36, none⟩ = some (.string (str x.s)) := (hblk.cell 36).trans (putC_36 x bv hx.h32)
  have HC := Lib.hid (wFlag_x S p m (x.n == 1) st _ hW1 (by omega))
  have HLT := Lib.hid hlt
  obtain ⟨ba, bc, rfl, _⟩ := hb
  clear hW hx hW1 hq0 hblk hlt hl hk hk'
  go_enter Tryz.func9, Tryz.ntmps9
  go_wp2_with (first
    | (go_at_call 24; refine (HP.out _).mono ?_; rintro e w1 ⟨rfl, rfl⟩; rw [HK.out])
    | (go_at_call 18; refine HC.out.mono ?_; rintro e w' ⟨rfl, hw, hg⟩; (have HW := Lib.hid hw); (have HG := Lib.hid hg); clear hw hg))
  go_end0
  exact ⟨rfl, xfr_alloc HW.out HG.out HLT.out⟩
set_option maxRecDepth 100000 in
set_option maxHeartbeats 1000000 in
theorem put_9 (S : Nat → Prop) (p : Value) (m : RM) (x : PutD) (bv : Value) (st : Option (List Nat)) (w : World) (hW : WrX S w p m st) (hx : x.Ok) (hb : Rd w bv x.b.length (u8s x.b)) (hl : lenO st + 40 + x.b.length ≤ 140737488355328 ∧ lenO st + 40 + x.s.length ≤ 140737488355328) (hk : x.what % 10 = 9) :
    Calls Tryz.prog 9 #[p, .agg (putC x bv).toArray] w fun e w' => e = .returned (.tuple #[]) ∧ WrX (Fr S w w') w' p m (putK x st 9) ∧ Gs S w w' := by
  have hq0 : Qt w (w.alloc (.cells (putC x bv).toArray 28)) := (Qt.refl w).alloc _
  have hblk : Blk (w.alloc (.cells (putC x bv).toArray 28)) w.heap.size 28 (putC x bv) := heap_alloc_new w _
  have hW1 := hW.qt hq0
  have hlt := hW.lt
  have HP := Lib.hid (fun w => pick_any x.what 10 w hx.w0 hx.w1 (by omega) (by omega))
  have hk' : Value.int .i64 (x.what % 10) = .int .i64 9 := by rw [hk]
  have HK := Lib.hid hk'
  have hn0 := hx.n0
  have hn1 := hx.n1
  have c0 : (w.alloc (.cells (putC x bv).toArray 28)).cell? ⟨w.heap.size, 0, none⟩ = some (.int .i64 x.what) := hblk.cell 0
  have c1 : (w.alloc (.cells (putC x bv).toArray 28)).cell? ⟨w.heap.size, 1, none⟩ = some (.int .i64 x.n) := hblk.cell 1
  have c2 : (w.alloc (.cells (putC x bv).toArray 28)).cell? ⟨w.heap.size, 2, none⟩ = some (.int .u64 (x.u : Int)) := hblk.cell 2
  have c3 : (w.alloc (.cells (putC x bv).toArray 28)).cell? ⟨w.heap.size, 35, none⟩ = some bv := (hblk.cell 35).trans (putC_35 x bv hx.h32)
  have c4 : (w.alloc (.cells (putC x bv).toArray 28)).cell? ⟨w.heap.size, 36, none⟩ = some (.string (str x.s)) := (hblk.cell 36).trans (putC_36 x bv hx.h32)
  have HC := Lib.hid (wSpoil_x S p m st _ hW1)
  have HLT := Lib.hid hlt
  have HW0 := Lib.hid hW
  have HQ0 := Lib.hid hq0
  obtain ⟨ba, bc, rfl, _⟩ := hb
  clear hW hx hW1 hq0 hblk hlt hl hk hk'
  by_cases h7 : x.n = 7
  · have e7 : (x.n == 7) = true := by simpa using h7
    have E : putK x st 9 = none := if_pos h7
    rw [E]
    clear E h7
    go_enter Tryz.func9, Tryz.ntmps9
    go_wp2_with (first
      | (go_at_call 24; refine (HP.out _).mono ?_; rintro e w1 ⟨rfl, rfl⟩; rw [HK.out])
      | (go_at_call 31; refine HC.out.mono ?_; rintro e w' ⟨rfl, hw, hg⟩; (have HW := Lib.hid hw); (have HG := Lib.hid hg); clear hw hg))
    go_end0
    exact ⟨rfl, xfr_alloc HW.out HG.out HLT.out⟩
  · have e7 : (x.n == 7) = false := by simpa using h7
    have E : putK x st 9 = st := if_neg h7
    rw [E]
    clear E h7
    go_enter Tryz.func9, Tryz.ntmps9
    go_wp2_with (go_at_call 24; refine (HP.out _).mono ?_; rintro e w1 ⟨rfl, rfl⟩; rw [HK.out])
    go_end0
    exact ⟨rfl, HW0.out.fr0 HQ0.out⟩
theorem put_any (S : Nat → Prop) (p : Value) (m : RM) (x : PutD) (bv : Value) (st : Option (List Nat)) (w : World) (hW : WrX S w p m st) (hx : x.Ok) (hb : Rd w bv x.b.length (u8s x.b)) (hl : lenO st + 40 + x.b.length ≤ 140737488355328 ∧ lenO st + 40 + x.s.length ≤ 140737488355328) :
    Calls Tryz.prog 9 #[p, .agg (putC x bv).toArray] w fun e w' => e = .returned (.tuple #[]) ∧ WrX (Fr S w w') w' p m (putK x st (pk x)) ∧ Gs S w w' := by
  have h10 := pk_lt x
  obtain ⟨k, hk⟩ : ∃ k, pk x = k := ⟨_, rfl⟩
  rw [hk] at h10 ⊢
  have hi := pk_int x k hk
  match k, h10, hi with
  | 0, _, hi => exact put_0 S p m x bv st w hW hx hb hl hi
  | 1, _, hi => exact put_1 S p m x bv st w hW hx hb hl hi
  | 2, _, hi => exact put_2 S p m x bv st w hW hx hb hl hi
  | 3, _, hi => exact put_3 S p m x bv st w hW hx hb hl hi
  | 4, _, hi => exact put_4 S p m x bv st w hW hx hb hl hi
  | 5, _, hi => exact put_5 S p m x bv st w hW hx hb hl hi
  | 6, _, hi => exact put_6 S p m x bv st w hW hx hb hl hi
  | 7, _, hi => exact put_7 S p m x bv st w hW hx hb hl hi
  | 8, _, hi => exact put_8 S p m x bv st w hW hx hb hl hi
  | 9, _, hi => exact put_9 S p m x bv st w hW hx hb hl hi
end Go.Proofs.YtajkmblcphdnbaaGreat
