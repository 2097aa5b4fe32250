import Derived.Test.YtjpimfbkdighfaaL
import Derived.Test.YtjpimfbkdighfaaSM
import Derived.Deep.MidRow
namespace Go.Proofs.Ytjpimfbkdighfaa
open Go.RowKit

theorem and31 {n : Nat} (h1 : 1 ≤ n) (h2 : n ≤ 31) : bits .and .u64 (IntKind.u64.wrap (-(n : Int))) 31 = ((32 - n : Nat) : Int) := by
  have e : IntKind.u64.wrap (-(n : Int)) = 18446744073709551616 - (n : Int) := by
    rw [IntKind.wrap_u64]; omega
  rw [e, u64_and _ _ (by omega) (by omega) (by omega) (by omega)]
  have : (18446744073709551616 - (n : Int)).toNat = 18446744073709551616 - n := by omega
  rw [this]
  have h := Nat.and_two_pow_sub_one_eq_mod (18446744073709551616 - n) 5
  rw [show (31 : Int).toNat = 2 ^ 5 - 1 from rfl, h]
  omega

theorem rr_int (x n : Nat) (hx : x < 4294967296) (h1 : 1 ≤ n) (h2 : n ≤ 31) : bits .or .u32 ((x : Int) * 2 ^ (32 - n) % 4294967296) ((x : Int) / 2 ^ (32 - (32 - n))) = (rr x n : Nat) := by
  have e1 : ((x : Int) * 2 ^ (32 - n) % 4294967296) = ((x * 2 ^ (32 - n) % 4294967296 : Nat) : Int) := by simp
  have e2 : ((x : Int) / 2 ^ (32 - (32 - n))) = ((x / 2 ^ n : Nat) : Int) := by rw [show 32 - (32 - n) = n from by omega]; simp
  rw [e1, e2, u32_or_nat _ _ (Nat.mod_lt _ (by decide)) (Nat.lt_of_le_of_lt (Nat.div_le_self _ _) hx)]
  unfold rr
  rw [Nat.shiftLeft_eq, Nat.shiftRight_eq_div_pow]

theorem Rot_any (x n : Nat) (hx : x < 4294967296) (h1 : 1 ≤ n) (h2 : n ≤ 31) (w : World) : Calls Try.prog 43 #[.int .u32 x, .int .i64 (-(n : Int))] w fun e w' => e = .returned (.int .u32 (rr x n : Nat)) ∧ w = w' := by
  have hs := and31 h1 h2
  go_enter Try.func43, Try.ntmps43
  go_wp2
  go_ret
  exact ⟨by rw [← rr_int x n hx h1 h2]; rfl, rfl⟩

theorem neg_i64 (n : Nat) (h : n ≤ 31) : ∀ w : World, (Op.unary .neg (.int .i64 (n : Int))).run Try.prog w = .ok (.int .i64 (-(n : Int))) w := fun w => by
  simp [Op.unary, Op.intArith, IntKind.wrap_i64]
  omega

def nats (ns : List Nat) : List Value := ns.map fun (n : Nat) => Value.int .i64 (n : Int)

theorem turned_any (x : Nat) (ns : List Nat) (hx : x < 4294967296) (hn : ∀ n ∈ ns, 1 ≤ n ∧ n ≤ 31) (hl : ns.length ≤ 3) (v : Value) (w : World) (hv : Rd w v ns.length (nats ns)) :
    Calls Try.prog 41 #[.int .u32 x, v] w fun e w' => e = .returned (.int .u32 (trn x ns : Nat)) ∧ w = w' := by
  obtain ⟨a, c, rfl, hc, h0⟩ := hv
  have h := Lib.hid h0
  clear h0
  go_enter Try.func41, Try.ntmps41
  go_wp2
  go_loop [5, 10] (fun o i => ∃ k : Nat, k ≤ ns.length ∧ i = .int .i64 k ∧ o = .int .u32 (trn x (ns.take k) : Nat)) (fun _ i => ns.length - (intOf i).toNat)
  case atStart => exact ⟨0, Nat.zero_le _, rfl, rfl⟩
  case round =>
    obtain ⟨k, hk, rfl, rfl⟩ := hrel
    by_cases hlt : k < ns.length
    · obtain ⟨b, off, rfl, hcell⟩ : ∃ b off, a = some ⟨b, off, none⟩ ∧ w.cell? ⟨b, off + k, none⟩ = some (.int .i64 (ns[k] : Nat)) := by
        rcases h.out with g | ⟨b, off, rfl, g⟩
        · exact absurd (show ns.length = 0 from by have e := congrArg List.length g; rwa [nats, List.length_map] at e) (by omega)
        · exact ⟨b, off, rfl, g k _ (by simp [nats, hlt])⟩
      have hm := hn ns[k] (List.getElem_mem hlt)
      have ht := trn_lt hx (ns.take k)
      have hs := trn_snoc x (ns.take k) ns[k]
      rw [← List.take_succ_eq_append_getElem hlt] at hs
      have hr := rr_lt hx ns[k]
      have hxo := u32_xor_nat (trn x (ns.take k)) (rr x ns[k]) ht hr
      rw [← hs] at hxo
      clear hs
      generalize ns[k] = n at *
      have H1 : ∃ t1, Hid (trn x (ns.take (k + 1)) = t1) ∧ bits .xor .u32 (trn x (ns.take k) : Nat) (rr x n : Nat) = (t1 : Nat) := ⟨_, Lib.hid rfl, hxo⟩
      clear hxo
      obtain ⟨t1, H1, hxo⟩ := H1
      generalize trn x (ns.take k) = t0 at *
      have hng := neg_i64 n hm.2
      have m1 := hm.1
      have m2 := hm.2
      clear hm
      go_wp2_with (go_at_call 43; refine (Rot_any x n hx m1 m2 _).mono ?_; rintro e w' ⟨rfl, rfl⟩)
      go_round
      case rel => exact ⟨k + 1, by omega, by go_num, by rw [H1.out]⟩
      case measure => simp [intOf]; omega
    · obtain rfl : k = ns.length := by omega
      rw [List.take_length]
      go_wp2
      go_ret
      exact ⟨rfl, rfl⟩

def u32v (n : Nat) : Value := .int .u32 (n : Int)

theorem shl_int (a : Nat) (m : Int) (s : Nat) (hm : m = 2 ^ s) (h : a * 2 ^ s < 4294967296) : (a : Int) % (4294967296 : Int) * m % (4294967296 : Int) = ((a <<< s : Nat) : Int) := by
  rw [Nat.shiftLeft_eq, hm]
  have h1 : a < 4294967296 := Nat.lt_of_le_of_lt (Nat.le_mul_of_pos_right a (Nat.two_pow_pos s)) h
  rw [show (a : Int) % (4294967296 : Int) = (a : Int) from by omega]
  have h2 : (a : Int) * 2 ^ s = ((a * 2 ^ s : Nat) : Int) := by simp
  rw [h2]
  exact Int.emod_eq_of_lt (by omega) (by omega)
theorem mod_int (a : Nat) (h : a < 4294967296) : (a : Int) % (4294967296 : Int) = (a : Int) := by omega

theorem w4_int {a b c d : Nat} (ha : a < 256) (hb : b < 256) (hc : c < 256) (hd : d < 256) :
    bits .or .u32 (bits .or .u32 (bits .or .u32 ((a : Int) % 4294967296 * 16777216 % 4294967296) ((b : Int) % 4294967296 * 65536 % 4294967296)) ((c : Int) % 4294967296 * 256 % 4294967296)) ((d : Int) % 4294967296) = (w4 a b c d : Nat) := by
  have e1 := shl_int a 16777216 24 (by decide) (by omega)
  have e2 := shl_int b 65536 16 (by decide) (by omega)
  have e3 := shl_int c 256 8 (by decide) (by omega)
  have e4 := mod_int d (by omega)
  have l1 : a <<< 24 < 4294967296 := by rw [Nat.shiftLeft_eq]; omega
  have l2 : b <<< 16 < 4294967296 := by rw [Nat.shiftLeft_eq]; omega
  have l3 : c <<< 8 < 4294967296 := by rw [Nat.shiftLeft_eq]; omega
  rw [e1, e2, e3, e4, u32_or_nat _ _ l1 l2, u32_or_nat _ _ (or_lt l1 l2) l3, u32_or_nat _ _ (or_lt (or_lt l1 l2) l3) (by omega)]
  rfl

theorem rd2 {w : World} {g a b : Nat} (h0 : w.cell? ⟨g, 0, none⟩ = some (.int .i64 (a : Int))) (h1 : w.cell? ⟨g, 1, none⟩ = some (.int .i64 (b : Int))) : Rd w (.slice (some ⟨g, 0, none⟩) 2 2) 2 (nats [a, b]) :=
  ⟨_, _, rfl, Nat.le_refl _, .inr ⟨g, 0, rfl, fun j u hu => by
    match j, hu with
    | 0, hu => simp [nats] at hu; subst hu; exact h0
    | 1, hu => simp [nats] at hu; subst hu; exact h1⟩⟩
theorem rd2_new {w : World} {t : TypeId} {g : Nat} (hg : g = w.heap.size) (a b : Nat) : Rd (w.alloc (.cells #[.int .i64 (a : Int), .int .i64 (b : Int)] t)) (.slice (some ⟨g, 0, none⟩) 2 2) 2 (nats [a, b]) := by
  subst hg; exact rd2 (by rw [World.cell?_alloc_new]; rfl) (by rw [World.cell?_alloc_new]; rfl)
theorem Rd.al {w : World} {v : Value} {n : Nat} {xs : List Value} (h : Rd w v n xs) (o : Obj) : Rd (w.alloc o) v n xs := h.below ((Qt.refl w).alloc o)
theorem rd3 {w : World} {g a b c : Nat} (h0 : w.cell? ⟨g, 0, none⟩ = some (.int .i64 (a : Int))) (h1 : w.cell? ⟨g, 1, none⟩ = some (.int .i64 (b : Int))) (h2 : w.cell? ⟨g, 2, none⟩ = some (.int .i64 (c : Int))) : Rd w (.slice (some ⟨g, 0, none⟩) 3 3) 3 (nats [a, b, c]) :=
  ⟨_, _, rfl, Nat.le_refl _, .inr ⟨g, 0, rfl, fun j u hu => by
    match j, hu with
    | 0, hu => simp [nats] at hu; subst hu; exact h0
    | 1, hu => simp [nats] at hu; subst hu; exact h1
    | 2, hu => simp [nats] at hu; subst hu; exact h2⟩⟩

theorem rd3_new {w : World} {t : TypeId} {g : Nat} (hg : g = w.heap.size) (a b c : Nat) : Rd (w.alloc (.cells #[.int .i64 (a : Int), .int .i64 (b : Int), .int .i64 (c : Int)] t)) (.slice (some ⟨g, 0, none⟩) 3 3) 3 (nats [a, b, c]) := by
  subst hg; exact rd3 (by rw [World.cell?_alloc_new]; rfl) (by rw [World.cell?_alloc_new]; rfl) (by rw [World.cell?_alloc_new]; rfl)
theorem cell_alE {w : World} {a : Addr} (ha : a.block < w.heap.size) (o : Obj) : (w.alloc o).cell? a = w.cell? a := World.cell?_of_block (w := w) (Below.heap_alloc w o a.block ha)
theorem frozen_alE {w : World} {a : Addr} (ha : a.block < w.heap.size) (o : Obj) : (w.alloc o).frozen? a = w.frozen? a := World.frozen?_of_block (w := w) (Below.heap_alloc w o a.block ha)
/-- 64 cells that hold these words, noughts behind. -/
def arr (l : List Nat) : List Value := (List.range 64).map fun j => u32v (l.getD j 0)
theorem arr_len (l : List Nat) : (arr l).length = 64 := by simp [arr]
theorem arr_get (l : List Nat) {j : Nat} (h : j < 64) : (arr l)[j]? = some (u32v (l.getD j 0)) := by simp [arr, h]
theorem arr_set {l : List Nat} (x : Nat) (h : l.length < 64) : (arr l).set l.length (u32v x) = arr (l ++ [x]) := by
  apply List.ext_getElem?
  intro j
  by_cases hj : j < 64
  · rw [List.getElem?_set, arr_get _ hj, arr_get _ hj, arr_len]
    by_cases e : l.length = j
    · subst e; rw [if_pos rfl, if_pos h]; simp
    · rw [if_neg e]
      by_cases h2 : j < l.length
      · simp [List.getD_eq_getElem?_getD, List.getElem?_append_left h2]
      · simp [List.getD_eq_getElem?_getD, List.getElem?_append_right (show l.length ≤ j by omega), List.getElem?_eq_none (show l.length ≤ j by omega), show j - l.length ≠ 0 by omega]
  · rw [List.getElem?_eq_none (by simp [arr_len]; omega), List.getElem?_eq_none (by simp [arr_len]; omega)]
theorem cell_blk {w : World} {g t : Nat} {cs : List Value} {fr : Nat × Nat} (h : w.heap[g]? = some (.cells cs.toArray t fr)) (j : Nat) : w.cell? ⟨g, j, none⟩ = cs[j]? := by simp [World.cell?, h]
theorem frozen_blk {w : World} {g t : Nat} {cs : Array Value} (h : w.heap[g]? = some (.cells cs t (0, 0))) (j : Nat) : w.frozen? ⟨g, j, none⟩ = false := by simp [World.frozen?, h]
theorem set_blk {w : World} {g t : Nat} {cs : List Value} {fr : Nat × Nat} (h : w.heap[g]? = some (.cells cs.toArray t fr)) (j : Nat) (u : Value) : (w.setCell ⟨g, j, none⟩ u).heap[g]? = some (.cells (cs.set j u).toArray t fr) := by
  simp [World.setCell, Array.getElem?_modify, h]

theorem wmix_int {p q x y : Nat} (lx : x < 4294967296) (ly : y < 4294967296) :
    ((((p : Int) + (q : Int)) % (4294967296 : Int) + bits .xor .u32 (trn x [7, 18] : Nat) ((x : Int) / (8 : Int))) % (4294967296 : Int) + bits .xor .u32 (trn y [17, 19] : Nat) ((y : Int) / (1024 : Int))) % (4294967296 : Int) = (wmix p q x y : Nat) := by
  have e1 : (x : Int) / (8 : Int) = ((x >>> 3 : Nat) : Int) := by rw [Nat.shiftRight_eq_div_pow]; omega
  have e2 : (y : Int) / (1024 : Int) = ((y >>> 10 : Nat) : Int) := by rw [Nat.shiftRight_eq_div_pow]; omega
  rw [e1, e2, u32_xor_nat _ _ (trn_lt lx _) (shr_lt lx), u32_xor_nat _ _ (trn_lt ly _) (shr_lt ly)]
  unfold wmix
  omega

/-- The block N of the call's own holds cs; all that was there below stands. -/
structure Own1 (w : World) (N : Nat) (t : TypeId) (cs : List Value) (w' : World) : Prop where
  blk : w'.heap[N]? = some (.cells cs.toArray t (0, 0))
  bel : Below N w w'
theorem heap_lt {w : World} {N : Nat} {o : Obj} (h : w.heap[N]? = some o) : N < w.heap.size := by
  rcases Nat.lt_or_ge N w.heap.size with h' | h'
  · exact h'
  · rw [Array.getElem?_eq_none h'] at h; cases h
theorem Own1.al {w w' : World} {N : Nat} {t : TypeId} {cs : List Value} (h : Own1 w N t cs w') (o : Obj) : Own1 w N t cs (w'.alloc o) :=
  ⟨(Below.heap_alloc w' o N (heap_lt h.blk)).trans h.blk, h.bel.alloc (Nat.le_of_lt (heap_lt h.blk)) o⟩
theorem Own1.drewN {w w' : World} {N : Nat} {t : TypeId} {cs : List Value} (h : Own1 w N t cs w') (n : Nat) : Own1 w N t cs (w'.drewN n) := ⟨h.blk, below_drewN' h.bel n⟩
theorem Own1.drew {w w' : World} {N : Nat} {t : TypeId} {cs : List Value} (h : Own1 w N t cs w') : Own1 w N t cs w'.drew := ⟨h.blk, h.bel.drew⟩
theorem Own1.set {w w' : World} {N : Nat} {t : TypeId} {cs : List Value} (h : Own1 w N t cs w') (j : Nat) (u : Value) : Own1 w N t (cs.set j u) (w'.setCell ⟨N, j, none⟩ u) :=
  ⟨set_blk h.blk j u, h.bel.setCell (Nat.le_refl _) u⟩
theorem arr_step {b : List Nat} {k : Nat} (h : k < 64) {x : Nat} (hx : x = if k < 16 then wfirst b k else wmix ((wsTo b k).getD (k - 16) 0) ((wsTo b k).getD (k - 7) 0) ((wsTo b k).getD (k - 15) 0) ((wsTo b k).getD (k - 2) 0)) :
    (arr (wsTo b k)).set k (u32v x) = arr (wsTo b (k + 1)) := by
  have := arr_set (l := wsTo b k) x (by rw [wsTo_len]; exact h)
  rw [wsTo_len] at this
  rw [this, wsTo, ← hx]

theorem arr_one (l : List Nat) : ∀ v ∈ arr l, v.oneCell' = true := by
  intro v hv
  obtain ⟨j, _, rfl⟩ := List.mem_map.1 hv
  rfl
theorem arr_full {b : List Nat} : arr (wsTo b 64) = (wsTo b 64).map u32v := by
  have hl := wsTo_len b 64
  generalize wsTo b 64 = l at hl
  apply List.ext_getElem?
  intro j
  by_cases hj : j < 64
  · rw [arr_get _ hj, List.getElem?_map, List.getElem?_eq_getElem (by omega), List.getD_eq_getElem?_getD, List.getElem?_eq_getElem (by omega)]; rfl
  · rw [List.getElem?_eq_none (by simp [arr_len]; omega), List.getElem?_eq_none (by simp; omega)]
theorem below_setRow {B g : Nat} {u w : World} (h : Below B u w) (hg : B ≤ g) (cs : Array Value) : Below B u (w.setRow g cs) :=
  ⟨h.os, h.tape, h.output, by rw [setRow_size]; exact h.size, fun k hk => by rw [setRow_other w g k cs (by omega)]; exact h.block k hk⟩

set_option maxRecDepth 100000 in
set_option maxHeartbeats 4000000 in
theorem spread_any (b : List Nat) (hb : ∀ x ∈ b, x < 256) (hl : b.length = 64) (v : Value) (w : World) (hv : Rd w v 64 (u8s b)) :
    Calls Try.prog 40 #[v] w fun e w' => e = .returned (.agg ((wsTo b 64).map u32v).toArray) ∧ Qt w w' := by
  obtain ⟨a, c, rfl, hc, h0⟩ := hv
  obtain ⟨B, off, rfl, hbc⟩ : ∃ B off, a = some ⟨B, off, none⟩ ∧ ∀ j, j < 64 → w.cell? ⟨B, off + j, none⟩ = some (.int .u8 (b.getD j 0 : Nat)) := by
    rcases h0 with g | ⟨B, off, rfl, g⟩
    · exact absurd (show b.length = 0 from by have e := congrArg List.length g; rwa [u8s, List.length_map] at e) (by omega)
    · exact ⟨B, off, rfl, fun j hj => g j _ (by simp [u8s, hl, hj])⟩
  clear h0
  have HB := Lib.hid hbc; clear hbc
  have HL := Lib.hid hl; clear hl
  have HU := Lib.hid hb; clear hb
  go_enter Try.func40, Try.ntmps40
  go_wp2_with fail
  have hblk : (w.alloc (.cells (arr []).toArray 50)).heap[w.heap.size]? = some (.cells (arr []).toArray 50 (0, 0)) := heap_alloc_new _ _
  have hbel : Below w.heap.size w (w.alloc (.cells (arr []).toArray 50)) := (Below.refl _ _).alloc (Nat.le_refl _) _
  have hblk' := hblk
  have hbel' := hbel
  simp only [arr, List.getD_nil, List.range_succ, List.range_zero, List.map_cons, List.map_nil, List.nil_append, List.cons_append, u32v, Int.natCast_zero] at hblk' hbel'
  have HK := Lib.hid hblk'
  have HE := Lib.hid hbel'
  clear hblk hbel hblk' hbel'
  go_loopw [6] (fun i wr => ∃ k : Nat, k ≤ 64 ∧ i = .int .i64 k ∧ wr.heap[w.heap.size]? = some (.cells (arr (wsTo b k)).toArray 50 (0, 0)) ∧ Below w.heap.size w wr) (fun i _ => 64 - (intOf i).toNat)
  case atStart => exact ⟨0, by omega, rfl, HK.out, HE.out⟩
  case round =>
    obtain ⟨k, hk, rfl, hblk, hbel⟩ := hrel
    have HB2 := Lib.hid hblk
    have HE2 := Lib.hid hbel
    clear hblk hbel
    by_cases h64 : k < 64
    · by_cases h16 : k < 16
      · have hBs : B < w.heap.size := blk_of_cell (HB.out 0 (by omega))
        have c0 : wr.cell? ⟨B, off + 4 * k, none⟩ = some (.int .u8 (b.getD (4 * k) 0 : Nat)) := (HE2.out.cell (p := ⟨B, off + 4 * k, none⟩) hBs).trans (HB.out _ (by omega))
        have c1 : wr.cell? ⟨B, off + (4 * k + 1), none⟩ = some (.int .u8 (b.getD (4 * k + 1) 0 : Nat)) := (HE2.out.cell (p := ⟨B, off + (4 * k + 1), none⟩) hBs).trans (HB.out _ (by omega))
        have c2 : wr.cell? ⟨B, off + (4 * k + 2), none⟩ = some (.int .u8 (b.getD (4 * k + 2) 0 : Nat)) := (HE2.out.cell (p := ⟨B, off + (4 * k + 2), none⟩) hBs).trans (HB.out _ (by omega))
        have c3 : wr.cell? ⟨B, off + (4 * k + 3), none⟩ = some (.int .u8 (b.getD (4 * k + 3) 0 : Nat)) := (HE2.out.cell (p := ⟨B, off + (4 * k + 3), none⟩) hBs).trans (HB.out _ (by omega))
        have hX := arr_step (b := b) h64 (x := wfirst b k) (by rw [if_pos h16])
        have hg : ∀ j, b.getD j 0 < 256 := by
          intro j
          rw [List.getD_eq_getElem?_getD]
          by_cases h : j < b.length
          · rw [List.getElem?_eq_getElem h]; exact HU.out _ (List.getElem_mem h)
          · rw [List.getElem?_eq_none (by omega)]; decide
        have hI := w4_int (hg (4 * k)) (hg (4 * k + 1)) (hg (4 * k + 2)) (hg (4 * k + 3))
        unfold wfirst at hX
        have HX := Lib.hid hX
        have HI := Lib.hid hI
        clear hX hI hg
        generalize b.getD (4 * k) 0 = x0 at *
        generalize b.getD (4 * k + 1) 0 = x1 at *
        generalize b.getD (4 * k + 2) 0 = x2 at *
        generalize b.getD (4 * k + 3) 0 = x3 at *
        have s0 : wr.cell? ⟨w.heap.size, k, none⟩ = some (u32v ((wsTo b k).getD k 0)) := by rw [cell_blk HB2.out, arr_get _ h64]
        have s1 : wr.frozen? ⟨w.heap.size, k, none⟩ = false := frozen_blk HB2.out _
        have hne : ¬ B = w.heap.size := by omega
        go_wp2_with fail
        go_region
        go_wp2_with fail
        have hO : Own1 w w.heap.size 50 (arr (wsTo b (k + 1))) _ := HX.out ▸ (Own1.set ⟨HB2.out, HE2.out⟩ k _).drew
        go_roundw
        case rel => exact ⟨k + 1, by omega, by go_num, by rw [HI.out]; exact hO.blk, by rw [HI.out]; exact hO.bel⟩
        case measure => simp [intOf]; omega
      · obtain ⟨p, hp⟩ : ∃ p, p = (wsTo b k).getD (k - 16) 0 := ⟨_, rfl⟩
        obtain ⟨q, hq⟩ : ∃ q, q = (wsTo b k).getD (k - 7) 0 := ⟨_, rfl⟩
        obtain ⟨x, hx⟩ : ∃ x, x = (wsTo b k).getD (k - 15) 0 := ⟨_, rfl⟩
        obtain ⟨y, hy⟩ : ∃ y, y = (wsTo b k).getD (k - 2) 0 := ⟨_, rfl⟩
        have c0 : wr.cell? ⟨w.heap.size, k - 16, none⟩ = some (.int .u32 (p : Nat)) := by rw [cell_blk HB2.out, arr_get _ (by omega), hp]; rfl
        have c1 : wr.cell? ⟨w.heap.size, k - 7, none⟩ = some (.int .u32 (q : Nat)) := by rw [cell_blk HB2.out, arr_get _ (by omega), hq]; rfl
        have c2 : wr.cell? ⟨w.heap.size, k - 15, none⟩ = some (.int .u32 (x : Nat)) := by rw [cell_blk HB2.out, arr_get _ (by omega), hx]; rfl
        have c3 : wr.cell? ⟨w.heap.size, k - 2, none⟩ = some (.int .u32 (y : Nat)) := by rw [cell_blk HB2.out, arr_get _ (by omega), hy]; rfl
        have s0 : wr.cell? ⟨w.heap.size, k, none⟩ = some (.int .u32 ((wsTo b k).getD k 0 : Nat)) := by rw [cell_blk HB2.out, arr_get _ h64]; rfl
        have s1 : wr.frozen? ⟨w.heap.size, k, none⟩ = false := frozen_blk HB2.out _
        have lp : p < 4294967296 := by rw [hp]; exact wsTo_getD_lt b HU.out _ _
        have lq : q < 4294967296 := by rw [hq]; exact wsTo_getD_lt b HU.out _ _
        have lx : x < 4294967296 := by rw [hx]; exact wsTo_getD_lt b HU.out _ _
        have ly : y < 4294967296 := by rw [hy]; exact wsTo_getD_lt b HU.out _ _
        have hsz : w.heap.size < wr.heap.size := blk_of_cell s0
        have hX := arr_step (b := b) h64 (x := wmix p q x y) (by rw [if_neg h16, hp, hq, hx, hy])
        have hI := wmix_int (p := p) (q := q) lx ly
        have HX := Lib.hid hX
        have HI := Lib.hid hI
        clear hX hI
        clear hp hq hx hy
        generalize (wsTo b k).getD k 0 = z at *
        have k1 : (16 : Int) ≤ (k : Int) := by omega
        go_wp2_with fail
        go_quiet (fail)
        go_wp2_with fail
        have T1 := turned_any x [7, 18] lx (by decide) (by decide)
        have T2 := turned_any y [17, 19] ly (by decide) (by decide)
        have z1 : IntKind.i64.wrap ((k : Int) - 16) = (k : Int) - 16 := IntWalk.i64_in _ (by omega)
        have z2 : IntKind.i64.wrap ((k : Int) - 7) = (k : Int) - 7 := IntWalk.i64_in _ (by omega)
        have z3 : ((k : Int) - 16).toNat = k - 16 := by omega
        have z4 : ((k : Int) - 7).toNat = k - 7 := by omega
        have z5 : (0 : Int) ≤ (k : Int) - 16 := by omega
        have z6 : (0 : Int) ≤ (k : Int) - 7 := by omega
        have z7 : (k : Int) - 16 < 64 := by omega
        have z8 : (k : Int) - 7 < 64 := by omega
        have z9 : (7 : Int) ≤ (k : Int) := by omega
        have z10 : (k : Int) < 64 := by omega
        have e1 : ∀ (n : Nat) (o1 o2 : Obj), (((wr.drewN n).alloc o1).alloc o2).cell? ⟨w.heap.size, k, none⟩ = some (.int .u32 (z : Nat)) := fun n o1 o2 => (cell_alE (by simp; omega) _).trans ((cell_alE (by simp; omega) _).trans s0)
        have e2 : ∀ (n : Nat) (o1 o2 : Obj), (((wr.drewN n).alloc o1).alloc o2).frozen? ⟨w.heap.size, k, none⟩ = false := fun n o1 o2 => (frozen_alE (by simp; omega) _).trans ((frozen_alE (by simp; omega) _).trans s1)
        have HT1 := Lib.hid T1
        have HT2 := Lib.hid T2
        clear T1 T2
        go_region_held3 (fun w' => w'.cell? ⟨w.heap.size, k - 16, none⟩ = some (.int .u32 (p : Nat)) ∧ w'.cell? ⟨w.heap.size, k - 7, none⟩ = some (.int .u32 (q : Nat)))
          (first | exact ⟨c0, c1⟩ | exact ⟨(cell_alE (by simp; omega) _).trans c0, (cell_alE (by simp; omega) _).trans c1⟩ | exact ⟨(cell_alE (by simp; omega) _).trans ((cell_alE (by simp; omega) _).trans c0), (cell_alE (by simp; omega) _).trans ((cell_alE (by simp; omega) _).trans c1)⟩ | exact ⟨(cell_alE (by simp; omega) _).trans ((World.cell?_setCell_other _ _ _ _ (by simp <;> omega)).trans ((cell_alE (by simp; omega) _).trans c0)), (cell_alE (by simp; omega) _).trans ((World.cell?_setCell_other _ _ _ _ (by simp <;> omega)).trans ((cell_alE (by simp; omega) _).trans c1))⟩)
          (first
            | (go_at_call_of 41 (Value.int .u32 (x : Int)); refine (HT1.out _ _ (by first | exact rd2_new (by simp) 7 18 | exact (rd2_new (by simp) 7 18).al _)).mono ?_; rintro e w' ⟨rfl, rfl⟩)
            | (go_at_call_of 41 (Value.int .u32 (y : Int)); refine (HT2.out _ _ (by first | exact rd2_new (by simp) 17 19 | exact (rd2_new (by simp) 17 19).al _)).mono ?_; rintro e w' ⟨rfl, rfl⟩))
        all_goals
          clear c0 c1 c2 c3 s0 s1 e1 e2 z1 z2 z3 z4 z5 z6 z7 z8 z9 z10
          have hO : ∀ n o1 o2, Own1 w w.heap.size 50 (arr (wsTo b (k + 1))) ((((wr.drewN n).alloc o1).setCell ⟨w.heap.size, k, none⟩ (u32v (wmix p q x y))).alloc o2) := fun n o1 o2 => HX.out ▸ ((((Own1.mk HB2.out HE2.out).drewN n).al o1).set k (u32v (wmix p q x y))).al o2
          go_wp2_with fail
          go_roundw
          case rel => exact ⟨k + 1, by omega, by go_num, by rw [HI.out]; exact (hO _ _ _).blk, by rw [HI.out]; exact (hO _ _ _).bel⟩
          case measure => simp [intOf]; omega
    · obtain rfl : k = 64 := by omega
      have hsz : ((Try.prog).info? 50).map (·.size) = some (arr (wsTo b 64)).toArray.size := by rw [List.size_toArray, arr_len]; kernel_rfl
      have h1c : (arr (wsTo b 64)).toArray.all (·.oneCell') = true := all_oneCell_toArray (arr_one _)
      have HS := Lib.hid hsz
      have HC := Lib.hid h1c
      clear hsz h1c
      go_wp2_with (first
        | (refine wpList_load_row rfl 50 _ rfl w.heap.size rfl 50 _ (0, 0) (.array 64 46) HB2.out (by kernel_rfl) rfl HS.out ?_)
        | (refine wpList_store_row rfl 50 _ _ rfl w.heap.size (arr (wsTo b 64)).toArray rfl rfl 50 _ HB2.out HS.out rfl HC.out ?_))
      have hrow : (wr.setRow w.heap.size (arr (wsTo b 64)).toArray).heap[w.heap.size]? = some (.cells (arr (wsTo b 64)).toArray 50 (0, 0)) := setRow_heap _ _ _ _ _ _ HB2.out
      refine bodyPost_ret (v := .agg ((wsTo b 64).map u32v).toArray) (by rw [← arr_full]; exact results_cell_row rfl _ _ w.heap.size _ _ _ (.array 64 46) rfl hrow (by kernel_rfl) rfl HS.out) rfl ⟨rfl, ?_⟩
      exact below_setRow HE2.out (Nat.le_refl _) _
end Go.Proofs.Ytjpimfbkdighfaa
