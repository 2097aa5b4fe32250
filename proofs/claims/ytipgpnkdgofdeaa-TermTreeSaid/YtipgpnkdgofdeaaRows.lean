/-
  No cell of these rows narrows 'for every input' (looked for: loops, veiled, ifaces, maps, wideKeys, modest, calm, conditions, laid).
  DERIVED. THE GIVEN ROWS OF THIS SEAT. 5 by the template 'for every input the law returns true; each argument reads behind the call as it read before'; 0 by the template 'total and deterministic' (their statements: YtipgpnkdgofdeaaTotals.lean).
  GIVEN WITH THE SEED: the statements are not yours to turn. If you find one false, say at which input.
  Laid BY PROGRAM, IN A SANDBOX (cutbox-rows.mjs): the forced cells as the released guide's own fill.sh prints them over the translation eff13d7d9c9c390a… (all of the seat's roots in one cut). By AI agents, Wed Nov 11 2026. No macro, syntax, notation, axiom, sorry.
-/
import Derived.Test.YtipgpnkdgofdeaaChecked
import GoSem.Claim
import GoSem.ClaimJoined
import GoSem.ClaimMapViews
import Derived.JoinedTies
import Derived.KernelRfl
namespace Go.Proofs.Ytipgpnkdgofdeaa
/- THE CELL 'sum', in the pinned program and in every row, IS THE sha256 OF THE DUMP (.gsa) THAT YtipgpnkdgofdeaaProg.lean LOADS. Nothing in Lean hashes anything: it is a label: what it is worth is what the hold of that sum in a sandbox is worth. -/
noncomputable def Try.pinned : Pinned := { name := "ytipgpnkdgofdeaa", sum := "eff13d7d9c9c390a3669968b2b8ee41bb38be690c7c2fb63f1cb65461455caa0", checked := Try.checked }
namespace Rows
def none {H : Type} : Left H := { results := [], args := [] }

/-- 'moidorelaw04.TermTells': WHATEVER THE INPUT: true; the input reads as it did. -/
def termTellsSpec : ChangeSpec := { name := "termTells", fn := fun _ => fun
  | [d1, d2] => { results := [.lit (.bool true)], args := [d1, d2] }
  | _ => none }
def termTellsRow : OpenClaim := { program := "ytipgpnkdgofdeaa", sum := "eff13d7d9c9c390a3669968b2b8ee41bb38be690c7c2fb63f1cb65461455caa0", func := "moidore/moidorelaw04.TermTells", spec := "termTells", inPlace := ["math.Float64frombits", "math.Float64bits", "internal/bytealg.abigen_runtime_cmpstring"], unfollowed := true, recurses := true, apart := false }
def TermTellsSaid : Prop := termTellsRow.holds Try.pinned (OpenSpec.ofChange termTellsSpec)

/-- ITS FALSE NEIGHBOUR: 'it returns false'. Refute it at one input. -/
def termTellsWrong : ChangeSpec := { name := "termTells", fn := fun _ => fun
  | [d1, d2] => { results := [.lit (.bool false)], args := [d1, d2] }
  | _ => none }
def TermTellsWrongFalsely : Prop := termTellsRow.holds Try.pinned (OpenSpec.ofChange termTellsWrong)

/-- 'moidorelaw04.TermOrder': WHATEVER THE INPUT: true; the input reads as it did. -/
def termOrderSpec : ChangeSpec := { name := "termOrder", fn := fun _ => fun
  | [d1, d2, d3, d4] => { results := [.lit (.bool true)], args := [d1, d2, d3, d4] }
  | _ => none }
def termOrderRow : OpenClaim := { program := "ytipgpnkdgofdeaa", sum := "eff13d7d9c9c390a3669968b2b8ee41bb38be690c7c2fb63f1cb65461455caa0", func := "moidore/moidorelaw04.TermOrder", spec := "termOrder", inPlace := ["math.Float64frombits", "math.Float64bits", "internal/bytealg.abigen_runtime_cmpstring"], unfollowed := true, recurses := true, apart := false }
def TermOrderSaid : Prop := termOrderRow.holds Try.pinned (OpenSpec.ofChange termOrderSpec)

/-- ITS FALSE NEIGHBOUR: 'it returns false'. Refute it at one input. -/
def termOrderWrong : ChangeSpec := { name := "termOrder", fn := fun _ => fun
  | [d1, d2, d3, d4] => { results := [.lit (.bool false)], args := [d1, d2, d3, d4] }
  | _ => none }
def TermOrderWrongFalsely : Prop := termOrderRow.holds Try.pinned (OpenSpec.ofChange termOrderWrong)

/-- 'moidorelaw04.TermReals': WHATEVER THE INPUT: true; the input reads as it did. -/
def termRealsSpec : ChangeSpec := { name := "termReals", fn := fun _ => fun
  | [d1, d2] => { results := [.lit (.bool true)], args := [d1, d2] }
  | _ => none }
def termRealsRow : OpenClaim := { program := "ytipgpnkdgofdeaa", sum := "eff13d7d9c9c390a3669968b2b8ee41bb38be690c7c2fb63f1cb65461455caa0", func := "moidore/moidorelaw04.TermReals", spec := "termReals", inPlace := ["math.Float64frombits", "math.Float64bits", "internal/bytealg.abigen_runtime_cmpstring"], unfollowed := true, recurses := true, apart := false }
def TermRealsSaid : Prop := termRealsRow.holds Try.pinned (OpenSpec.ofChange termRealsSpec)

/-- ITS FALSE NEIGHBOUR: 'it returns false'. Refute it at one input. -/
def termRealsWrong : ChangeSpec := { name := "termReals", fn := fun _ => fun
  | [d1, d2] => { results := [.lit (.bool false)], args := [d1, d2] }
  | _ => none }
def TermRealsWrongFalsely : Prop := termRealsRow.holds Try.pinned (OpenSpec.ofChange termRealsWrong)

/-- 'moidorelaw04.TermRow': WHATEVER THE INPUT: true; the input reads as it did. -/
def termRowSpec : ChangeSpec := { name := "termRow", fn := fun _ => fun
  | [] => { results := [.lit (.bool true)], args := [] }
  | _ => none }
def termRowRow : OpenClaim := { program := "ytipgpnkdgofdeaa", sum := "eff13d7d9c9c390a3669968b2b8ee41bb38be690c7c2fb63f1cb65461455caa0", func := "moidore/moidorelaw04.TermRow", spec := "termRow", inPlace := ["math.Float64frombits", "math.Float64bits", "internal/bytealg.abigen_runtime_cmpstring"], unfollowed := true, recurses := true, apart := false }
def TermRowSaid : Prop := termRowRow.holds Try.pinned (OpenSpec.ofChange termRowSpec)

/-- ITS FALSE NEIGHBOUR: 'it returns false'. Refute it at one input. -/
def termRowWrong : ChangeSpec := { name := "termRow", fn := fun _ => fun
  | [] => { results := [.lit (.bool false)], args := [] }
  | _ => none }
def TermRowWrongFalsely : Prop := termRowRow.holds Try.pinned (OpenSpec.ofChange termRowWrong)

/-- 'moidorelaw04.TermTree': WHATEVER THE INPUT: true; the input reads as it did. -/
def termTreeSpec : ChangeSpec := { name := "termTree", fn := fun _ => fun
  | [d1, d2] => { results := [.lit (.bool true)], args := [d1, d2] }
  | _ => none }
def termTreeRow : OpenClaim := { program := "ytipgpnkdgofdeaa", sum := "eff13d7d9c9c390a3669968b2b8ee41bb38be690c7c2fb63f1cb65461455caa0", func := "moidore/moidorelaw04.TermTree", spec := "termTree", inPlace := ["math.Float64frombits", "math.Float64bits", "internal/bytealg.abigen_runtime_cmpstring"], unfollowed := true, recurses := true, apart := false }
def TermTreeSaid : Prop := termTreeRow.holds Try.pinned (OpenSpec.ofChange termTreeSpec)

/-- ITS FALSE NEIGHBOUR: 'it returns false'. Refute it at one input. -/
def termTreeWrong : ChangeSpec := { name := "termTree", fn := fun _ => fun
  | [d1, d2] => { results := [.lit (.bool false)], args := [d1, d2] }
  | _ => none }
def TermTreeWrongFalsely : Prop := termTreeRow.holds Try.pinned (OpenSpec.ofChange termTreeWrong)

/- THE SECOND FORM. 'bulk': how many values and letters a reading holds, each counted each time it is reached (what is shared counts as often as it is met; a slice's spare places count too). A statement '..UptoSaid' is the law's where the arguments, and the package variables that the reading takes, are together of bulk at most 1048576: NARROWER than '..Said'. Prove '..Said' where nothing that the law and all that it calls make is longer than what came in: it says more and counts as full. Else prove '..UptoSaid'. A law counts once. -/
mutual
def uptoBulk {H : Type} : DataW H → Nat
  | .lit (.string bytes) => bytes.length + 1
  | .lit _ => 1
  | .nil => 1
  | .ptr d => uptoBulk d + 1
  | .slice elems spare => uptoBulkAll elems + uptoBulkAll spare + 1
  | .agg parts => uptoBulkAll parts + 1
  | .iface _ d => uptoBulk d + 1
  | .map entries => uptoBulkEntries entries + 1
  | .held _ => 1
def uptoBulkAll {H : Type} : List (DataW H) → Nat
  | [] => 0
  | d :: r => uptoBulk d + uptoBulkAll r
def uptoBulkEntries {H : Type} : List (Lit × DataW H) → Nat
  | [] => 0
  | x :: r => uptoBulkEntry x + uptoBulkEntries r
def uptoBulkEntry {H : Type} : Lit × DataW H → Nat
  | (.string bytes, d) => bytes.length + uptoBulk d + 1
  | (_, d) => uptoBulk d + 1
 end
def uptoSmall : (H : Type) → List (DataW H) → Bool := fun _ ds => decide (uptoBulkAll ds ≤ 1048576)
def OpenSpec.upto (s : _root_.Go.ChangeSpec) : _root_.Go.OpenSpec := { _root_.Go.OpenSpec.ofChange s with cond := some uptoSmall }

/-- 'moidorelaw04.TermTells', WHERE WHAT IT READS IS OF BULK AT MOST 1048576: true; the input reads as it did. -/
def termTellsUptoRow : OpenClaim := { program := "ytipgpnkdgofdeaa", sum := "eff13d7d9c9c390a3669968b2b8ee41bb38be690c7c2fb63f1cb65461455caa0", func := "moidore/moidorelaw04.TermTells", spec := "termTells", inPlace := ["math.Float64frombits", "math.Float64bits", "internal/bytealg.abigen_runtime_cmpstring"], unfollowed := true, recurses := true, apart := false, narrowed := true }
def TermTellsUptoSaid : Prop := termTellsUptoRow.holds Try.pinned (OpenSpec.upto termTellsSpec)

/-- 'moidorelaw04.TermOrder', WHERE WHAT IT READS IS OF BULK AT MOST 1048576: true; the input reads as it did. -/
def termOrderUptoRow : OpenClaim := { program := "ytipgpnkdgofdeaa", sum := "eff13d7d9c9c390a3669968b2b8ee41bb38be690c7c2fb63f1cb65461455caa0", func := "moidore/moidorelaw04.TermOrder", spec := "termOrder", inPlace := ["math.Float64frombits", "math.Float64bits", "internal/bytealg.abigen_runtime_cmpstring"], unfollowed := true, recurses := true, apart := false, narrowed := true }
def TermOrderUptoSaid : Prop := termOrderUptoRow.holds Try.pinned (OpenSpec.upto termOrderSpec)

/-- 'moidorelaw04.TermReals', WHERE WHAT IT READS IS OF BULK AT MOST 1048576: true; the input reads as it did. -/
def termRealsUptoRow : OpenClaim := { program := "ytipgpnkdgofdeaa", sum := "eff13d7d9c9c390a3669968b2b8ee41bb38be690c7c2fb63f1cb65461455caa0", func := "moidore/moidorelaw04.TermReals", spec := "termReals", inPlace := ["math.Float64frombits", "math.Float64bits", "internal/bytealg.abigen_runtime_cmpstring"], unfollowed := true, recurses := true, apart := false, narrowed := true }
def TermRealsUptoSaid : Prop := termRealsUptoRow.holds Try.pinned (OpenSpec.upto termRealsSpec)

/-- 'moidorelaw04.TermRow', WHERE WHAT IT READS IS OF BULK AT MOST 1048576: true; the input reads as it did. -/
def termRowUptoRow : OpenClaim := { program := "ytipgpnkdgofdeaa", sum := "eff13d7d9c9c390a3669968b2b8ee41bb38be690c7c2fb63f1cb65461455caa0", func := "moidore/moidorelaw04.TermRow", spec := "termRow", inPlace := ["math.Float64frombits", "math.Float64bits", "internal/bytealg.abigen_runtime_cmpstring"], unfollowed := true, recurses := true, apart := false, narrowed := true }
def TermRowUptoSaid : Prop := termRowUptoRow.holds Try.pinned (OpenSpec.upto termRowSpec)

/-- 'moidorelaw04.TermTree', WHERE WHAT IT READS IS OF BULK AT MOST 1048576: true; the input reads as it did. -/
def termTreeUptoRow : OpenClaim := { program := "ytipgpnkdgofdeaa", sum := "eff13d7d9c9c390a3669968b2b8ee41bb38be690c7c2fb63f1cb65461455caa0", func := "moidore/moidorelaw04.TermTree", spec := "termTree", inPlace := ["math.Float64frombits", "math.Float64bits", "internal/bytealg.abigen_runtime_cmpstring"], unfollowed := true, recurses := true, apart := false, narrowed := true }
def TermTreeUptoSaid : Prop := termTreeUptoRow.holds Try.pinned (OpenSpec.upto termTreeSpec)

end Rows
end Go.Proofs.Ytipgpnkdgofdeaa
