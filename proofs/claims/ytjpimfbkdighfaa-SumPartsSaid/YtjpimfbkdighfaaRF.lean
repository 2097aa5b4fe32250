import Derived.Test.YtjpimfbkdighfaaRE
import Derived.Lib.SlBytesConst
namespace Go.Proofs.Ytjpimfbkdighfaa
open Go.RowKit

set_option maxRecDepth 100000 in
theorem sha_nil : hexB (sha []) = [101, 51, 98, 48, 99, 52, 52, 50, 57, 56, 102, 99, 49, 99, 49, 52, 57, 97, 102, 98, 102, 52, 99, 56, 57, 57, 54, 102, 98, 57, 50, 52, 50, 55, 97, 101, 52, 49, 101, 52, 54, 52, 57, 98, 57, 51, 52, 99, 97, 52, 57, 53, 57, 57, 49, 98, 55, 56, 53, 50, 98, 56, 53, 53] := by decide +kernel
set_option maxRecDepth 100000 in
theorem sha_abc : hexB (sha [97, 98, 99]) = [98, 97, 55, 56, 49, 54, 98, 102, 56, 102, 48, 49, 99, 102, 101, 97, 52, 49, 52, 49, 52, 48, 100, 101, 53, 100, 97, 101, 50, 50, 50, 51, 98, 48, 48, 51, 54, 49, 97, 51, 57, 54, 49, 55, 55, 97, 57, 99, 98, 52, 49, 48, 102, 102, 54, 49, 102, 50, 48, 48, 49, 53, 97, 100] := by decide +kernel
theorem str_nil : str (hexB (sha [])) = ⟨#[101, 51, 98, 48, 99, 52, 52, 50, 57, 56, 102, 99, 49, 99, 49, 52, 57, 97, 102, 98, 102, 52, 99, 56, 57, 57, 54, 102, 98, 57, 50, 52, 50, 55, 97, 101, 52, 49, 101, 52, 54, 52, 57, 98, 57, 51, 52, 99, 97, 52, 57, 53, 57, 57, 49, 98, 55, 56, 53, 50, 98, 56, 53, 53]⟩ := by rw [sha_nil]; rfl
theorem str_abc : str (hexB (sha [97, 98, 99])) = ⟨#[98, 97, 55, 56, 49, 54, 98, 102, 56, 102, 48, 49, 99, 102, 101, 97, 52, 49, 52, 49, 52, 48, 100, 101, 53, 100, 97, 101, 50, 50, 50, 51, 98, 48, 48, 51, 54, 49, 97, 51, 57, 54, 49, 55, 55, 97, 57, 99, 98, 52, 49, 48, 102, 102, 54, 49, 102, 50, 48, 48, 49, 53, 97, 100]⟩ := by rw [sha_abc]; rfl
theorem sha_len (b : List Nat) : (sha b).length = 32 := hashB_len _
theorem sha_lt (b : List Nat) : ∀ x ∈ sha b, x < 256 := hashB_lt _
theorem parts_nil (w : World) : Parts w (.slice none 0 0) [] := ⟨⟨[], ⟨none, 0, rfl, Nat.le_refl _, .inl rfl⟩, rfl, fun j x hx => by simp at hx⟩, fun x hx => by cases hx⟩
theorem rd_nil (w : World) : Rd w (.slice none 0 0) 0 [] := ⟨none, 0, rfl, Nat.le_refl _, .inl rfl⟩
theorem rdn_newF {w : World} {t : TypeId} {g n : Nat} {fr : Nat × Nat} {xs : List Value} (hg : g = w.heap.size := by first | rfl | simp) (_hn : xs.length = n := by rfl) : Rd (w.alloc (.cells xs.toArray t fr)) (.slice (some ⟨g, 0, none⟩) n n) n xs := by
  subst hg
  exact ⟨_, _, rfl, Nat.le_refl _, .inr ⟨_, _, rfl, fun j u hu => by rw [Nat.zero_add, cell_blk (heap_alloc_new w _)]; exact hu⟩⟩
theorem parts3 {w : World} {t : TypeId} {g : Nat} {v1 v2 v3 : Value} {x1 x2 x3 : List Nat} (hg : g = w.heap.size) (h1 : Rd w v1 x1.length (u8s x1)) (h2 : Rd w v2 x2.length (u8s x2)) (h3 : Rd w v3 x3.length (u8s x3))
    (l1 : ∀ x ∈ x1, x < 256) (l2 : ∀ x ∈ x2, x < 256) (l3 : ∀ x ∈ x3, x < 256) : Parts (w.alloc (.cells #[v1, v2, v3] t)) (.slice (some ⟨g, 0, none⟩) 3 3) [x1, x2, x3] := by
  refine ⟨⟨[v1, v2, v3], rdn_new hg, rfl, fun j x hx => ?_⟩, fun x hx => ?_⟩
  · match j, hx with
    | 0, hx => cases hx; exact ⟨_, rfl, h1.al _⟩
    | 1, hx => cases hx; exact ⟨_, rfl, h2.al _⟩
    | 2, hx => cases hx; exact ⟨_, rfl, h3.al _⟩
  · simp at hx
    rcases hx with rfl | rfl | rfl
    · exact l1
    · exact l2
    · exact l3

set_option maxRecDepth 100000 in
set_option maxHeartbeats 1000000 in
theorem awake_any (w : World) : Calls Try.prog 8 #[] w fun e w' => e = .returned (.bool true) ∧ Qt w w' := by
  have h1 := of_any [] _ w (parts_nil w) (by simp) (by simp)
  have h2 := fun w => hex_any (sha []) (sha_len _) (sha_lt _) w
  have h3 := fun w => hex_any (sha [97, 98, 99]) (sha_len _) (sha_lt _) w
  have h4 : ∀ w1 : World, Calls Try.prog 10 #[.slice (some ⟨w1.heap.size + 1 + 1, 0, none⟩) 3 3]
      (((w1.alloc (.cells #[.int .u8 97] 5 (1, 2))).alloc (.cells #[.int .u8 98, .int .u8 99] 5 (2, 3))).alloc (.cells #[.slice (some ⟨w1.heap.size, 0, none⟩) 1 1, .slice none 0 0, .slice (some ⟨w1.heap.size + 1, 0, none⟩) 2 2] 38))
      fun e w' => e = .returned (.agg (u8s (sha [97, 98, 99])).toArray) ∧ Qt w1 w' := fun w1 => by
    refine (of_any [[97], [], [98, 99]] _ _ (parts3 (by simp) ((rdn_newF (xs := u8s [97])).al _) (rd_nil _) (rdn_newF (xs := u8s [98, 99])) (by decide) (by decide) (by decide)) (by simp) (by simp)).mono ?_
    rintro e w' ⟨rfl, q⟩
    exact ⟨rfl, ((((Qt.refl w1).alloc _).alloc _).alloc _).trans q⟩
  rw [str_nil] at h2
  rw [str_abc] at h3
  generalize hs1 : sha [97, 98, 99] = S1 at *
  have e1 : ([] : List (List Nat)).flatten = [] := rfl
  rw [e1] at h1
  generalize hs2 : sha [] = S2 at *
  have H1 := Lib.hid h1
  have H2 := Lib.hid h2
  have H3 := Lib.hid h3
  have H4 := Lib.hid h4
  clear h1 h2 h3 h4 hs1 hs2 e1
  have kc := fun (w : World) (C : Array Value) (n c : Nat) => Lib.run_convert_bytes_const (P := Try.prog) w 38 5 C n c (by kernel_rfl) (by kernel_rfl)
  have kc2 : ∀ (w : World) (o : Obj) (C : Array Value) (n c : Nat), (convert 38 38 (.slice (some ⟨w.heap.size + 1, 0, none⟩) n c)).run Try.prog ((w.alloc o).alloc (.cells C 5)) = .ok (.slice (some ⟨w.heap.size + 1, 0, none⟩) n c) ((w.alloc o).alloc (.cells C 5 (C.size, C.size + 1))) := fun w o C n c => by
    have := kc (w.alloc o) C n c
    rwa [show (w.alloc o).heap.size = w.heap.size + 1 from by simp] at this
  go_enter Try.func8, Try.ntmps8
  go_wp2_with fail
  refine H1.out.mono ?_
  rintro e w1 ⟨rfl, q1⟩
  have Q1 := Lib.hid q1; clear q1
  go_wp2_with fail
  refine (H2.out _).mono ?_
  rintro e w2 ⟨rfl, q2⟩
  have Q2 := Lib.hid q2; clear q2
  go_wp2_with fail
  refine (H4.out _).mono ?_
  rintro e w3 ⟨rfl, q3⟩
  have Q3 := Lib.hid q3; clear q3
  go_wp2_with fail
  refine (H3.out _).mono ?_
  rintro e w4 ⟨rfl, q4⟩
  have Q4 := Lib.hid q4; clear q4
  go_wp2_with fail
  go_ret
  exact ⟨rfl, ((Q1.out.trans Q2.out).trans Q3.out).trans Q4.out⟩
end Go.Proofs.Ytjpimfbkdighfaa
