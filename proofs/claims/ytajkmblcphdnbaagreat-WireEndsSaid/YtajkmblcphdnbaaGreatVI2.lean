import Derived.Test.YtajkmblcphdnbaaGreatVI
/-! wanted: printed by genlaw.py. -/
namespace Go.Proofs.YtajkmblcphdnbaaGreat
open Go.RowKit
set_option linter.unusedVariables false
set_option linter.unusedSimpArgs false

set_option maxRecDepth 100000 in
set_option maxHeartbeats 1000000 in
theorem wanted_0 (S : Nat → Prop) (a : Nat) (x : PutD) (bv : Value) (st : Option (List Nat)) (w : World) (hW : WfA S w a st) (hx : x.Ok) (hb : Rd w bv x.b.length (u8s x.b)) (hl : lenO st + 40 + x.b.length ≤ 140737488355328 ∧ lenO st + 40 + x.s.length ≤ 140737488355328) (hk : x.what % 10 = 0) :
    Calls Tryz.prog 10 #[.pointer (some ⟨a, 0, none⟩), .agg (putC x bv).toArray] w fun e w' => e = .returned (.tuple #[]) ∧ WfA (Fr S w w') w' a (putK x st 0) ∧ Gs S w w' := by
  have hq0 : Qt w (w.alloc (.cells (putC x bv).toArray 28)) := (Qt.refl w).alloc _
  have hblk : Blk (w.alloc (.cells (putC x bv).toArray 28)) w.heap.size 28 (putC x bv) := heap_alloc_new w _
  have hW1 := hW.qt hq0
  have hlt := hW.lt
  have HP := Lib.hid (fun w => pick_any x.what 10 w hx.w0 hx.w1 (by omega) (by omega))
  have hk' : Value.int .i64 (x.what % 10) = .int .i64 0 := by rw [hk]
  have HK := Lib.hid hk'
  have hn0 := hx.n0
  have hn1 := hx.n1
  have c0 : (w.alloc (.cells (putC x bv).toArray 28)).cell? ⟨w.heap.size, 0, none⟩ = some (.int .i64 x.what) := hblk.cell 0
  have c1 : (w.alloc (.cells (putC x bv).toArray 28)).cell? ⟨w.heap.size, 1, none⟩ = some (.int .i64 x.n) := hblk.cell 1
  have c2 : (w.alloc (.cells (putC x bv).toArray 28)).cell? ⟨w.heap.size, 2, none⟩ = some (.int .u64 (x.u : Int)) := hblk.cell 2
  have c3 : (w.alloc (.cells (putC x bv).toArray 28)).cell? ⟨w.heap.size, 35, none⟩ = some bv := (hblk.cell 35).trans (putC_35 x bv hx.h32)
  have c4 : (w.alloc (.cells (putC x bv).toArray 28)).cell? ⟨w.heap.size, 36, none⟩ = some (.string (str x.s)) := (hblk.cell 36).trans (putC_36 x bv hx.h32)
  have HC := Lib.hid (xU8_any S a x.n st _ hW1 hn0 hn1 (by omega))
  have HLT := Lib.hid hlt
  obtain ⟨ba, bc, rfl, _⟩ := hb
  clear hW hx hW1 hq0 hblk hlt hl hk hk'
  go_enter Tryz.func10, Tryz.ntmps10
  go_wp2_with (first
    | (go_at_call 24; refine (HP.out _).mono ?_; rintro e w1 ⟨rfl, rfl⟩; rw [HK.out])
    | (go_at_call 32; refine HC.out.mono ?_; rintro e w' ⟨rfl, hw, hg⟩; (have HW := Lib.hid hw); (have HG := Lib.hid hg); clear hw hg))
  go_end0
  exact ⟨rfl, fr_alloc HW.out HG.out HLT.out⟩
set_option maxRecDepth 100000 in
set_option maxHeartbeats 1000000 in
theorem wanted_1 (S : Nat → Prop) (a : Nat) (x : PutD) (bv : Value) (st : Option (List Nat)) (w : World) (hW : WfA S w a st) (hx : x.Ok) (hb : Rd w bv x.b.length (u8s x.b)) (hl : lenO st + 40 + x.b.length ≤ 140737488355328 ∧ lenO st + 40 + x.s.length ≤ 140737488355328) (hk : x.what % 10 = 1) :
    Calls Tryz.prog 10 #[.pointer (some ⟨a, 0, none⟩), .agg (putC x bv).toArray] w fun e w' => e = .returned (.tuple #[]) ∧ WfA (Fr S w w') w' a (putK x st 1) ∧ Gs S w w' := by
  have hq0 : Qt w (w.alloc (.cells (putC x bv).toArray 28)) := (Qt.refl w).alloc _
  have hblk : Blk (w.alloc (.cells (putC x bv).toArray 28)) w.heap.size 28 (putC x bv) := heap_alloc_new w _
  have hW1 := hW.qt hq0
  have hlt := hW.lt
  have HP := Lib.hid (fun w => pick_any x.what 10 w hx.w0 hx.w1 (by omega) (by omega))
  have hk' : Value.int .i64 (x.what % 10) = .int .i64 1 := by rw [hk]
  have HK := Lib.hid hk'
  have hn0 := hx.n0
  have hn1 := hx.n1
  have c0 : (w.alloc (.cells (putC x bv).toArray 28)).cell? ⟨w.heap.size, 0, none⟩ = some (.int .i64 x.what) := hblk.cell 0
  have c1 : (w.alloc (.cells (putC x bv).toArray 28)).cell? ⟨w.heap.size, 1, none⟩ = some (.int .i64 x.n) := hblk.cell 1
  have c2 : (w.alloc (.cells (putC x bv).toArray 28)).cell? ⟨w.heap.size, 2, none⟩ = some (.int .u64 (x.u : Int)) := hblk.cell 2
  have c3 : (w.alloc (.cells (putC x bv).toArray 28)).cell? ⟨w.heap.size, 35, none⟩ = some bv := (hblk.cell 35).trans (putC_35 x bv hx.h32)
  have c4 : (w.alloc (.cells (putC x bv).toArray 28)).cell? ⟨w.heap.size, 36, none⟩ = some (.string (str x.s)) := (hblk.cell 36).trans (putC_36 x bv hx.h32)
  have HC := Lib.hid (xU16_any S a x.n st _ hW1 hn0 hn1 (by omega))
  have HLT := Lib.hid hlt
  obtain ⟨ba, bc, rfl, _⟩ := hb
  clear hW hx hW1 hq0 hblk hlt hl hk hk'
  go_enter Tryz.func10, Tryz.ntmps10
  go_wp2_with (first
    | (go_at_call 24; refine (HP.out _).mono ?_; rintro e w1 ⟨rfl, rfl⟩; rw [HK.out])
    | (go_at_call 33; refine HC.out.mono ?_; rintro e w' ⟨rfl, hw, hg⟩; (have HW := Lib.hid hw); (have HG := Lib.hid hg); clear hw hg))
  go_end0
  exact ⟨rfl, fr_alloc HW.out HG.out HLT.out⟩
set_option maxRecDepth 100000 in
set_option maxHeartbeats 1000000 in
theorem wanted_2 (S : Nat → Prop) (a : Nat) (x : PutD) (bv : Value) (st : Option (List Nat)) (w : World) (hW : WfA S w a st) (hx : x.Ok) (hb : Rd w bv x.b.length (u8s x.b)) (hl : lenO st + 40 + x.b.length ≤ 140737488355328 ∧ lenO st + 40 + x.s.length ≤ 140737488355328) (hk : x.what % 10 = 2) :
    Calls Tryz.prog 10 #[.pointer (some ⟨a, 0, none⟩), .agg (putC x bv).toArray] w fun e w' => e = .returned (.tuple #[]) ∧ WfA (Fr S w w') w' a (putK x st 2) ∧ Gs S w w' := by
  have hq0 : Qt w (w.alloc (.cells (putC x bv).toArray 28)) := (Qt.refl w).alloc _
  have hblk : Blk (w.alloc (.cells (putC x bv).toArray 28)) w.heap.size 28 (putC x bv) := heap_alloc_new w _
  have hW1 := hW.qt hq0
  have hlt := hW.lt
  have HP := Lib.hid (fun w => pick_any x.what 10 w hx.w0 hx.w1 (by omega) (by omega))
  have hk' : Value.int .i64 (x.what % 10) = .int .i64 2 := by rw [hk]
  have HK := Lib.hid hk'
  have hn0 := hx.n0
  have hn1 := hx.n1
  have c0 : (w.alloc (.cells (putC x bv).toArray 28)).cell? ⟨w.heap.size, 0, none⟩ = some (.int .i64 x.what) := hblk.cell 0
  have c1 : (w.alloc (.cells (putC x bv).toArray 28)).cell? ⟨w.heap.size, 1, none⟩ = some (.int .i64 x.n) := hblk.cell 1
  have c2 : (w.alloc (.cells (putC x bv).toArray 28)).cell? ⟨w.heap.size, 2, none⟩ = some (.int .u64 (x.u : Int)) := hblk.cell 2
  have c3 : (w.alloc (.cells (putC x bv).toArray 28)).cell? ⟨w.heap.size, 35, none⟩ = some bv := (hblk.cell 35).trans (putC_35 x bv hx.h32)
  have c4 : (w.alloc (.cells (putC x bv).toArray 28)).cell? ⟨w.heap.size, 36, none⟩ = some (.string (str x.s)) := (hblk.cell 36).trans (putC_36 x bv hx.h32)
  have HC := Lib.hid (xU32_any S a x.n st _ hW1 hn0 hn1 (by omega))
  have HLT := Lib.hid hlt
  obtain ⟨ba, bc, rfl, _⟩ := hb
  clear hW hx hW1 hq0 hblk hlt hl hk hk'
  go_enter Tryz.func10, Tryz.ntmps10
  go_wp2_with (first
    | (go_at_call 24; refine (HP.out _).mono ?_; rintro e w1 ⟨rfl, rfl⟩; rw [HK.out])
    | (go_at_call 34; refine HC.out.mono ?_; rintro e w' ⟨rfl, hw, hg⟩; (have HW := Lib.hid hw); (have HG := Lib.hid hg); clear hw hg))
  go_end0
  exact ⟨rfl, fr_alloc HW.out HG.out HLT.out⟩
set_option maxRecDepth 100000 in
set_option maxHeartbeats 1000000 in
theorem wanted_3 (S : Nat → Prop) (a : Nat) (x : PutD) (bv : Value) (st : Option (List Nat)) (w : World) (hW : WfA S w a st) (hx : x.Ok) (hb : Rd w bv x.b.length (u8s x.b)) (hl : lenO st + 40 + x.b.length ≤ 140737488355328 ∧ lenO st + 40 + x.s.length ≤ 140737488355328) (hk : x.what % 10 = 3) :
    Calls Tryz.prog 10 #[.pointer (some ⟨a, 0, none⟩), .agg (putC x bv).toArray] w fun e w' => e = .returned (.tuple #[]) ∧ WfA (Fr S w w') w' a (putK x st 3) ∧ Gs S w w' := by
  have hq0 : Qt w (w.alloc (.cells (putC x bv).toArray 28)) := (Qt.refl w).alloc _
  have hblk : Blk (w.alloc (.cells (putC x bv).toArray 28)) w.heap.size 28 (putC x bv) := heap_alloc_new w _
  have hW1 := hW.qt hq0
  have hlt := hW.lt
  have HP := Lib.hid (fun w => pick_any x.what 10 w hx.w0 hx.w1 (by omega) (by omega))
  have hk' : Value.int .i64 (x.what % 10) = .int .i64 3 := by rw [hk]
  have HK := Lib.hid hk'
  have hn0 := hx.n0
  have hn1 := hx.n1
  have c0 : (w.alloc (.cells (putC x bv).toArray 28)).cell? ⟨w.heap.size, 0, none⟩ = some (.int .i64 x.what) := hblk.cell 0
  have c1 : (w.alloc (.cells (putC x bv).toArray 28)).cell? ⟨w.heap.size, 1, none⟩ = some (.int .i64 x.n) := hblk.cell 1
  have c2 : (w.alloc (.cells (putC x bv).toArray 28)).cell? ⟨w.heap.size, 2, none⟩ = some (.int .u64 (x.u : Int)) := hblk.cell 2
  have c3 : (w.alloc (.cells (putC x bv).toArray 28)).cell? ⟨w.heap.size, 35, none⟩ = some bv := (hblk.cell 35).trans (putC_35 x bv hx.h32)
  have c4 : (w.alloc (.cells (putC x bv).toArray 28)).cell? ⟨w.heap.size, 36, none⟩ = some (.string (str x.s)) := (hblk.cell 36).trans (putC_36 x bv hx.h32)
  have HC := Lib.hid (xU64_any S a x.u st _ hW1 hx.u1 (by omega))
  have HLT := Lib.hid hlt
  obtain ⟨ba, bc, rfl, _⟩ := hb
  clear hW hx hW1 hq0 hblk hlt hl hk hk'
  go_enter Tryz.func10, Tryz.ntmps10
  go_wp2_with (first
    | (go_at_call 24; refine (HP.out _).mono ?_; rintro e w1 ⟨rfl, rfl⟩; rw [HK.out])
    | (go_at_call 35; refine HC.out.mono ?_; rintro e w' ⟨rfl, hw, hg⟩; (have HW := Lib.hid hw); (have HG := Lib.hid hg); clear hw hg))
  go_end0
  exact ⟨rfl, fr_alloc HW.out HG.out HLT.out⟩
set_option maxRecDepth 100000 in
set_option maxHeartbeats 1000000 in
theorem wanted_4 (S : Nat → Prop) (a : Nat) (x : PutD) (bv : Value) (st : Option (List Nat)) (w : World) (hW : WfA S w a st) (hx : x.Ok) (hb : Rd w bv x.b.length (u8s x.b)) (hl : lenO st + 40 + x.b.length ≤ 140737488355328 ∧ lenO st + 40 + x.s.length ≤ 140737488355328) (hk : x.what % 10 = 4) :
    Calls Tryz.prog 10 #[.pointer (some ⟨a, 0, none⟩), .agg (putC x bv).toArray] w fun e w' => e = .returned (.tuple #[]) ∧ WfA (Fr S w w') w' a (putK x st 4) ∧ Gs S w w' := by
  have hq0 : Qt w (w.alloc (.cells (putC x bv).toArray 28)) := (Qt.refl w).alloc _
  have hblk : Blk (w.alloc (.cells (putC x bv).toArray 28)) w.heap.size 28 (putC x bv) := heap_alloc_new w _
  have hW1 := hW.qt hq0
  have hlt := hW.lt
  have HP := Lib.hid (fun w => pick_any x.what 10 w hx.w0 hx.w1 (by omega) (by omega))
  have hk' : Value.int .i64 (x.what % 10) = .int .i64 4 := by rw [hk]
  have HK := Lib.hid hk'
  have hn0 := hx.n0
  have hn1 := hx.n1
  have c0 : (w.alloc (.cells (putC x bv).toArray 28)).cell? ⟨w.heap.size, 0, none⟩ = some (.int .i64 x.what) := hblk.cell 0
  have c1 : (w.alloc (.cells (putC x bv).toArray 28)).cell? ⟨w.heap.size, 1, none⟩ = some (.int .i64 x.n) := hblk.cell 1
  have c2 : (w.alloc (.cells (putC x bv).toArray 28)).cell? ⟨w.heap.size, 2, none⟩ = some (.int .u64 (x.u : Int)) := hblk.cell 2
  have c3 : (w.alloc (.cells (putC x bv).toArray 28)).cell? ⟨w.heap.size, 35, none⟩ = some bv := (hblk.cell 35).trans (putC_35 x bv hx.h32)
  have c4 : (w.alloc (.cells (putC x bv).toArray 28)).cell? ⟨w.heap.size, 36, none⟩ = some (.string (str x.s)) := (hblk.cell 36).trans (putC_36 x bv hx.h32)
  have HC := Lib.hid (xI64_any S a x.u st _ hW1 hx.u1 (by omega))
  have HLT := Lib.hid hlt
  obtain ⟨ba, bc, rfl, _⟩ := hb
  clear hW hx hW1 hq0 hblk hlt hl hk hk'
  go_enter Tryz.func10, Tryz.ntmps10
  go_wp2_with (first
    | (go_at_call 24; refine (HP.out _).mono ?_; rintro e w1 ⟨rfl, rfl⟩; rw [HK.out])
    | (go_at_call 36; refine HC.out.mono ?_; rintro e w' ⟨rfl, hw, hg⟩; (have HW := Lib.hid hw); (have HG := Lib.hid hg); clear hw hg))
  go_end0
  exact ⟨rfl, fr_alloc HW.out HG.out HLT.out⟩
set_option maxRecDepth 100000 in
set_option maxHeartbeats 1000000 in
theorem wanted_5 (S : Nat → Prop) (a : Nat) (x : PutD) (bv : Value) (st : Option (List Nat)) (w : World) (hW : WfA S w a st) (hx : x.Ok) (hb : Rd w bv x.b.length (u8s x.b)) (hl : lenO st + 40 + x.b.length ≤ 140737488355328 ∧ lenO st + 40 + x.s.length ≤ 140737488355328) (hk : x.what % 10 = 5) :
    Calls Tryz.prog 10 #[.pointer (some ⟨a, 0, none⟩), .agg (putC x bv).toArray] w fun e w' => e = .returned (.tuple #[]) ∧ WfA (Fr S w w') w' a (putK x st 5) ∧ Gs S w w' := by
  have hq0 : Qt w (w.alloc (.cells (putC x bv).toArray 28)) := (Qt.refl w).alloc _
  have hblk : Blk (w.alloc (.cells (putC x bv).toArray 28)) w.heap.size 28 (putC x bv) := heap_alloc_new w _
  have hW1 := hW.qt hq0
  have hlt := hW.lt
  have HP := Lib.hid (fun w => pick_any x.what 10 w hx.w0 hx.w1 (by omega) (by omega))
  have hk' : Value.int .i64 (x.what % 10) = .int .i64 5 := by rw [hk]
  have HK := Lib.hid hk'
  have hn0 := hx.n0
  have hn1 := hx.n1
  have c0 : (w.alloc (.cells (putC x bv).toArray 28)).cell? ⟨w.heap.size, 0, none⟩ = some (.int .i64 x.what) := hblk.cell 0
  have c1 : (w.alloc (.cells (putC x bv).toArray 28)).cell? ⟨w.heap.size, 1, none⟩ = some (.int .i64 x.n) := hblk.cell 1
  have c2 : (w.alloc (.cells (putC x bv).toArray 28)).cell? ⟨w.heap.size, 2, none⟩ = some (.int .u64 (x.u : Int)) := hblk.cell 2
  have c3 : (w.alloc (.cells (putC x bv).toArray 28)).cell? ⟨w.heap.size, 35, none⟩ = some bv := (hblk.cell 35).trans (putC_35 x bv hx.h32)
  have c4 : (w.alloc (.cells (putC x bv).toArray 28)).cell? ⟨w.heap.size, 36, none⟩ = some (.string (str x.s)) := (hblk.cell 36).trans (putC_36 x bv hx.h32)
  have HC := Lib.hid (xHash_any S a x.h st _ hW1 hx.h32 hx.h8 (by omega))
  have HR := Lib.hid (putC_h x bv _ _ _ hblk)
  have H32 := Lib.hid hx.h32
  have HLT := Lib.hid hlt
  obtain ⟨ba, bc, rfl, _⟩ := hb
  clear hW hx hW1 hq0 hblk hlt hl hk hk'
  go_enter Tryz.func10, Tryz.ntmps10
  go_wp2_with (first
    | (refine wpList_load_mid rfl 25 (.tmp 46) rfl w.heap.size 3 rfl (u8s x.h) (.array 32 5) HR.out (by kernel_rfl) rfl (by rw [u8s_len, H32.out]; kernel_rfl) ?_)
    | (go_at_call 24; refine (HP.out _).mono ?_; rintro e w1 ⟨rfl, rfl⟩; rw [HK.out])
    | (go_at_call 37; refine HC.out.mono ?_; rintro e w' ⟨rfl, hw, hg⟩; (have HW := Lib.hid hw); (have HG := Lib.hid hg); clear hw hg))
  go_end0
  exact ⟨rfl, fr_alloc HW.out HG.out HLT.out⟩
set_option maxRecDepth 100000 in
set_option maxHeartbeats 1000000 in
theorem wanted_6 (S : Nat → Prop) (a : Nat) (x : PutD) (bv : Value) (st : Option (List Nat)) (w : World) (hW : WfA S w a st) (hx : x.Ok) (hb : Rd w bv x.b.length (u8s x.b)) (hl : lenO st + 40 + x.b.length ≤ 140737488355328 ∧ lenO st + 40 + x.s.length ≤ 140737488355328) (hk : x.what % 10 = 6) :
    Calls Tryz.prog 10 #[.pointer (some ⟨a, 0, none⟩), .agg (putC x bv).toArray] w fun e w' => e = .returned (.tuple #[]) ∧ WfA (Fr S w w') w' a (putK x st 6) ∧ Gs S w w' := by
  have hq0 : Qt w (w.alloc (.cells (putC x bv).toArray 28)) := (Qt.refl w).alloc _
  have hblk : Blk (w.alloc (.cells (putC x bv).toArray 28)) w.heap.size 28 (putC x bv) := heap_alloc_new w _
  have hW1 := hW.qt hq0
  have hlt := hW.lt
  have HP := Lib.hid (fun w => pick_any x.what 10 w hx.w0 hx.w1 (by omega) (by omega))
  have hk' : Value.int .i64 (x.what % 10) = .int .i64 6 := by rw [hk]
  have HK := Lib.hid hk'
  have hn0 := hx.n0
  have hn1 := hx.n1
  have c0 : (w.alloc (.cells (putC x bv).toArray 28)).cell? ⟨w.heap.size, 0, none⟩ = some (.int .i64 x.what) := hblk.cell 0
  have c1 : (w.alloc (.cells (putC x bv).toArray 28)).cell? ⟨w.heap.size, 1, none⟩ = some (.int .i64 x.n) := hblk.cell 1
  have c2 : (w.alloc (.cells (putC x bv).toArray 28)).cell? ⟨w.heap.size, 2, none⟩ = some (.int .u64 (x.u : Int)) := hblk.cell 2
  have c3 : (w.alloc (.cells (putC x bv).toArray 28)).cell? ⟨w.heap.size, 35, none⟩ = some bv := (hblk.cell 35).trans (putC_35 x bv hx.h32)
  have c4 : (w.alloc (.cells (putC x bv).toArray 28)).cell? ⟨w.heap.size, 36, none⟩ = some (.string (str x.s)) := (hblk.cell 36).trans (putC_36 x bv hx.h32)
  have HC := Lib.hid (xRaw_any S a bv x.b st _ hW1 (hb.below hq0) hx.b8 (by omega))
  have HLT := Lib.hid hlt
  obtain ⟨ba, bc, rfl, _⟩ := hb
  clear hW hx hW1 hq0 hblk hlt hl hk hk'
  go_enter Tryz.func10, Tryz.ntmps10
  go_wp2_with (first
    | (go_at_call 24; refine (HP.out _).mono ?_; rintro e w1 ⟨rfl, rfl⟩; rw [HK.out])
    | (go_at_call 38; refine HC.out.mono ?_; rintro e w' ⟨rfl, hw, hg⟩; (have HW := Lib.hid hw); (have HG := Lib.hid hg); clear hw hg))
  go_end0
  exact ⟨rfl, fr_alloc HW.out HG.out HLT.out⟩
set_option maxRecDepth 100000 in
set_option maxHeartbeats 1000000 in
theorem wanted_7 (S : Nat → Prop) (a : Nat) (x : PutD) (bv : Value) (st : Option (List Nat)) (w : World) (hW : WfA S w a st) (hx : x.Ok) (hb : Rd w bv x.b.length (u8s x.b)) (hl : lenO st + 40 + x.b.length ≤ 140737488355328 ∧ lenO st + 40 + x.s.length ≤ 140737488355328) (hk : x.what % 10 = 7) :
    Calls Tryz.prog 10 #[.pointer (some ⟨a, 0, none⟩), .agg (putC x bv).toArray] w fun e w' => e = .returned (.tuple #[]) ∧ WfA (Fr S w w') w' a (putK x st 7) ∧ Gs S w w' := by
  have hq0 : Qt w (w.alloc (.cells (putC x bv).toArray 28)) := (Qt.refl w).alloc _
  have hblk : Blk (w.alloc (.cells (putC x bv).toArray 28)) w.heap.size 28 (putC x bv) := heap_alloc_new w _
  have hW1 := hW.qt hq0
  have hlt := hW.lt
  have HP := Lib.hid (fun w => pick_any x.what 10 w hx.w0 hx.w1 (by omega) (by omega))
  have hk' : Value.int .i64 (x.what % 10) = .int .i64 7 := by rw [hk]
  have HK := Lib.hid hk'
  have hn0 := hx.n0
  have hn1 := hx.n1
  have c0 : (w.alloc (.cells (putC x bv).toArray 28)).cell? ⟨w.heap.size, 0, none⟩ = some (.int .i64 x.what) := hblk.cell 0
  have c1 : (w.alloc (.cells (putC x bv).toArray 28)).cell? ⟨w.heap.size, 1, none⟩ = some (.int .i64 x.n) := hblk.cell 1
  have c2 : (w.alloc (.cells (putC x bv).toArray 28)).cell? ⟨w.heap.size, 2, none⟩ = some (.int .u64 (x.u : Int)) := hblk.cell 2
  have c3 : (w.alloc (.cells (putC x bv).toArray 28)).cell? ⟨w.heap.size, 35, none⟩ = some bv := (hblk.cell 35).trans (putC_35 x bv hx.h32)
  have c4 : (w.alloc (.cells (putC x bv).toArray 28)).cell? ⟨w.heap.size, 36, none⟩ = some (.string (str x.s)) := (hblk.cell 36).trans (putC_36 x bv hx.h32)
  have HC := Lib.hid (xText_any S a x.s st _ hW1 hx.s8 hx.sl (by omega))
  have HLT := Lib.hid hlt
  obtain ⟨ba, bc, rfl, _⟩ := hb
  clear hW hx hW1 hq0 hblk hlt hl hk hk'
  go_enter Tryz.func10, Tryz.ntmps10
  go_wp2_with (first
    | (go_at_call 24; refine (HP.out _).mono ?_; rintro e w1 ⟨rfl, rfl⟩; rw [HK.out])
    | (go_at_call 39; refine HC.out.mono ?_; rintro e w' ⟨rfl, hw, hg⟩; (have HW := Lib.hid hw); (have HG := Lib.hid hg); clear hw hg))
  go_end0
  exact ⟨rfl, fr_alloc HW.out HG.out HLT.out⟩
set_option maxRecDepth 100000 in
set_option maxHeartbeats 1000000 in
theorem wanted_8 (S : Nat → Prop) (a : Nat) (x : PutD) (bv : Value) (st : Option (List Nat)) (w : World) (hW : WfA S w a st) (hx : x.Ok) (hb : Rd w bv x.b.length (u8s x.b)) (hl : lenO st + 40 + x.b.length ≤ 140737488355328 ∧ lenO st + 40 + x.s.length ≤ 140737488355328) (hk : x.what % 10 = 8) :
    Calls Tryz.prog 10 #[.pointer (some ⟨a, 0, none⟩), .agg (putC x bv).toArray] w fun e w' => e = .returned (.tuple #[]) ∧ WfA (Fr S w w') w' a (putK x st 8) ∧ Gs S w w' := by
  have hq0 : Qt w (w.alloc (.cells (putC x bv).toArray 28)) := (Qt.refl w).alloc _
  have hblk : Blk (w.alloc (.cells (putC x bv).toArray 28)) w.heap.size 28 (putC x bv) := heap_alloc_new w _
  have hW1 := hW.qt hq0
  have hlt := hW.lt
  have HP := Lib.hid (fun w => pick_any x.what 10 w hx.w0 hx.w1 (by omega) (by omega))
  have hk' : Value.int .i64 (x.what % 10) = .int .i64 8 := by rw [hk]
  have HK := Lib.hid hk'
  have hn0 := hx.n0
  have hn1 := hx.n1
  have c0 : (w.alloc (.cells (putC x bv).toArray 28)).cell? ⟨w.heap.size, 0, none⟩ = some (.int .i64 x.what) := hblk.cell 0
  have c1 : (w.alloc (.cells (putC x bv).toArray 28)).cell? ⟨w.heap.size, 1, none⟩ = some (.int .i64 x.n) := hblk.cell 1
  have c2 : (w.alloc (.cells (putC x bv).toArray 28)).cell? ⟨w.heap.size, 2, none⟩ = some (.int .u64 (x.u : Int)) := hblk.cell 2
  have c3 : (w.alloc (.cells (putC x bv).toArray 28)).cell? ⟨w.heap.size, 35, none⟩ = some bv := (hblk.cell 35).trans (putC_35 x bv hx.h32)
  have c4 : (w.alloc (.cells (putC x bv).toArray 28)).cell? ⟨w.heap.size, 36, none⟩ = some (.string (str x.s)) := (hblk.cell 36).trans (putC_36 x bv hx.h32)
  have HC := Lib.hid (xFlag_any S a (x.n == 1) st _ hW1 (by omega))
  have HLT := Lib.hid hlt
  obtain ⟨ba, bc, rfl, _⟩ := hb
  clear hW hx hW1 hq0 hblk hlt hl hk hk'
  go_enter Tryz.func10, Tryz.ntmps10
  go_wp2_with (first
    | (go_at_call 24; refine (HP.out _).mono ?_; rintro e w1 ⟨rfl, rfl⟩; rw [HK.out])
    | (go_at_call 40; refine HC.out.mono ?_; rintro e w' ⟨rfl, hw, hg⟩; (have HW := Lib.hid hw); (have HG := Lib.hid hg); clear hw hg))
  go_end0
  exact ⟨rfl, fr_alloc HW.out HG.out HLT.out⟩
set_option maxRecDepth 100000 in
set_option maxHeartbeats 1000000 in
theorem wanted_9 (S : Nat → Prop) (a : Nat) (x : PutD) (bv : Value) (st : Option (List Nat)) (w : World) (hW : WfA S w a st) (hx : x.Ok) (hb : Rd w bv x.b.length (u8s x.b)) (hl : lenO st + 40 + x.b.length ≤ 140737488355328 ∧ lenO st + 40 + x.s.length ≤ 140737488355328) (hk : x.what % 10 = 9) :
    Calls Tryz.prog 10 #[.pointer (some ⟨a, 0, none⟩), .agg (putC x bv).toArray] w fun e w' => e = .returned (.tuple #[]) ∧ WfA (Fr S w w') w' a (putK x st 9) ∧ Gs S w w' := by
  have hq0 : Qt w (w.alloc (.cells (putC x bv).toArray 28)) := (Qt.refl w).alloc _
  have hblk : Blk (w.alloc (.cells (putC x bv).toArray 28)) w.heap.size 28 (putC x bv) := heap_alloc_new w _
  have hW1 := hW.qt hq0
  have hlt := hW.lt
  have HP := Lib.hid (fun w => pick_any x.what 10 w hx.w0 hx.w1 (by omega) (by omega))
  have hk' : Value.int .i64 (x.what % 10) = .int .i64 9 := by rw [hk]
  have HK := Lib.hid hk'
  have hn0 := hx.n0
  have hn1 := hx.n1
  have c0 : (w.alloc (.cells (putC x bv).toArray 28)).cell? ⟨w.heap.size, 0, none⟩ = some (.int .i64 x.what) := hblk.cell 0
  have c1 : (w.alloc (.cells (putC x bv).toArray 28)).cell? ⟨w.heap.size, 1, none⟩ = some (.int .i64 x.n) := hblk.cell 1
  have c2 : (w.alloc (.cells (putC x bv).toArray 28)).cell? ⟨w.heap.size, 2, none⟩ = some (.int .u64 (x.u : Int)) := hblk.cell 2
  have c3 : (w.alloc (.cells (putC x bv).toArray 28)).cell? ⟨w.heap.size, 35, none⟩ = some bv := (hblk.cell 35).trans (putC_35 x bv hx.h32)
  have c4 : (w.alloc (.cells (putC x bv).toArray 28)).cell? ⟨w.heap.size, 36, none⟩ = some (.string (str x.s)) := (hblk.cell 36).trans (putC_36 x bv hx.h32)
  have HC := Lib.hid (xSpoil_any S a st _ hW1)
  have HLT := Lib.hid hlt
  have HW0 := Lib.hid hW
  have HQ0 := Lib.hid hq0
  obtain ⟨ba, bc, rfl, _⟩ := hb
  clear hW hx hW1 hq0 hblk hlt hl hk hk'
  by_cases h7 : x.n = 7
  · have e7 : (x.n == 7) = true := by simpa using h7
    have E : putK x st 9 = none := if_pos h7
    rw [E]
    clear E h7
    go_enter Tryz.func10, Tryz.ntmps10
    go_wp2_with (first
      | (go_at_call 24; refine (HP.out _).mono ?_; rintro e w1 ⟨rfl, rfl⟩; rw [HK.out])
      | (go_at_call 41; refine HC.out.mono ?_; rintro e w' ⟨rfl, hw, hg⟩; (have HW := Lib.hid hw); (have HG := Lib.hid hg); clear hw hg))
    go_end0
    exact ⟨rfl, fr_alloc HW.out HG.out HLT.out⟩
  · have e7 : (x.n == 7) = false := by simpa using h7
    have E : putK x st 9 = st := if_neg h7
    rw [E]
    clear E h7
    go_enter Tryz.func10, Tryz.ntmps10
    go_wp2_with (go_at_call 24; refine (HP.out _).mono ?_; rintro e w1 ⟨rfl, rfl⟩; rw [HK.out])
    go_end0
    exact ⟨rfl, fr0_any HW0.out HQ0.out⟩
theorem wanted_any (S : Nat → Prop) (a : Nat) (x : PutD) (bv : Value) (st : Option (List Nat)) (w : World) (hW : WfA S w a st) (hx : x.Ok) (hb : Rd w bv x.b.length (u8s x.b)) (hl : lenO st + 40 + x.b.length ≤ 140737488355328 ∧ lenO st + 40 + x.s.length ≤ 140737488355328) :
    Calls Tryz.prog 10 #[.pointer (some ⟨a, 0, none⟩), .agg (putC x bv).toArray] w fun e w' => e = .returned (.tuple #[]) ∧ WfA (Fr S w w') w' a (putK x st (pk x)) ∧ Gs S w w' := by
  have h10 := pk_lt x
  obtain ⟨k, hk⟩ : ∃ k, pk x = k := ⟨_, rfl⟩
  rw [hk] at h10 ⊢
  have hi := pk_int x k hk
  match k, h10, hi with
  | 0, _, hi => exact wanted_0 S a x bv st w hW hx hb hl hi
  | 1, _, hi => exact wanted_1 S a x bv st w hW hx hb hl hi
  | 2, _, hi => exact wanted_2 S a x bv st w hW hx hb hl hi
  | 3, _, hi => exact wanted_3 S a x bv st w hW hx hb hl hi
  | 4, _, hi => exact wanted_4 S a x bv st w hW hx hb hl hi
  | 5, _, hi => exact wanted_5 S a x bv st w hW hx hb hl hi
  | 6, _, hi => exact wanted_6 S a x bv st w hW hx hb hl hi
  | 7, _, hi => exact wanted_7 S a x bv st w hW hx hb hl hi
  | 8, _, hi => exact wanted_8 S a x bv st w hW hx hb hl hi
  | 9, _, hi => exact wanted_9 S a x bv st w hW hx hb hl hi
end Go.Proofs.YtajkmblcphdnbaaGreat
