/-
  No cell of these rows narrows 'for every input' (looked for: loops, veiled, ifaces, maps, wideKeys, modest, calm, conditions, laid).
  DERIVED. THE GIVEN ROWS OF THIS SEAT. 6 by the template 'for every input the law returns true; each argument reads behind the call as it read before'; 0 by the template 'total and deterministic' (their statements: YtedopmfciabdcaaTotals.lean).
  GIVEN WITH THE SEED: the statements are not yours to turn. If you find one false, say at which input.
  Laid BY PROGRAM, IN A SANDBOX (cutbox-rows.mjs): the forced cells as the released guide's own fill.sh prints them over the translation e9708d44d851c21e… (all of the seat's roots in one cut). By AI agents, Wed Nov 11 2026. No macro, syntax, notation, axiom, sorry.
-/
import Derived.Test.YtedopmfciabdcaaChecked
import GoSem.Claim
import GoSem.ClaimJoined
import GoSem.ClaimMapViews
import Derived.JoinedTies
import Derived.KernelRfl
namespace Go.Proofs.Ytedopmfciabdcaa
/- THE CELL 'sum', in the pinned program and in every row, IS THE sha256 OF THE DUMP (.gsa) THAT YtedopmfciabdcaaProg.lean LOADS. Nothing in Lean hashes anything: it is a label: what it is worth is what the hold of that sum in a sandbox is worth. -/
noncomputable def Try.pinned : Pinned := { name := "ytedopmfciabdcaa", sum := "e9708d44d851c21e7e6dc8dfa94bad1fcf80a722bf92edbcea74f65a476a7870", checked := Try.checked }
namespace Rows
def none {H : Type} : Left H := { results := [], args := [] }

/-- 'laws.FnExactShowPairs': WHATEVER THE INPUT: true; the input reads as it did. -/
def fnExactShowPairsSpec : ChangeSpec := { name := "fnExactShowPairs", fn := fun _ => fun
  | [d] => { results := [.lit (.bool true)], args := [d] }
  | _ => none }
def fnExactShowPairsRow : OpenClaim := { program := "ytedopmfciabdcaa", sum := "e9708d44d851c21e7e6dc8dfa94bad1fcf80a722bf92edbcea74f65a476a7870", func := "loop.example/g00240/laws.FnExactShowPairs", spec := "fnExactShowPairs", apart := false }
def FnExactShowPairsSaid : Prop := fnExactShowPairsRow.holds Try.pinned (OpenSpec.ofChange fnExactShowPairsSpec)

/-- ITS FALSE NEIGHBOUR: 'it returns false'. Refute it at one input. -/
def fnExactShowPairsWrong : ChangeSpec := { name := "fnExactShowPairs", fn := fun _ => fun
  | [d] => { results := [.lit (.bool false)], args := [d] }
  | _ => none }
def FnExactShowPairsWrongFalsely : Prop := fnExactShowPairsRow.holds Try.pinned (OpenSpec.ofChange fnExactShowPairsWrong)

/-- 'laws.FnExactSamePairs': WHATEVER THE INPUT: true; the input reads as it did. -/
def fnExactSamePairsSpec : ChangeSpec := { name := "fnExactSamePairs", fn := fun _ => fun
  | [d1, d2] => { results := [.lit (.bool true)], args := [d1, d2] }
  | _ => none }
def fnExactSamePairsRow : OpenClaim := { program := "ytedopmfciabdcaa", sum := "e9708d44d851c21e7e6dc8dfa94bad1fcf80a722bf92edbcea74f65a476a7870", func := "loop.example/g00240/laws.FnExactSamePairs", spec := "fnExactSamePairs", apart := false }
def FnExactSamePairsSaid : Prop := fnExactSamePairsRow.holds Try.pinned (OpenSpec.ofChange fnExactSamePairsSpec)

/-- ITS FALSE NEIGHBOUR: 'it returns false'. Refute it at one input. -/
def fnExactSamePairsWrong : ChangeSpec := { name := "fnExactSamePairs", fn := fun _ => fun
  | [d1, d2] => { results := [.lit (.bool false)], args := [d1, d2] }
  | _ => none }
def FnExactSamePairsWrongFalsely : Prop := fnExactSamePairsRow.holds Try.pinned (OpenSpec.ofChange fnExactSamePairsWrong)

/-- 'laws.FnExactEventOk': WHATEVER THE INPUT: true; the input reads as it did. -/
def fnExactEventOkSpec : ChangeSpec := { name := "fnExactEventOk", fn := fun _ => fun
  | [d] => { results := [.lit (.bool true)], args := [d] }
  | _ => none }
def fnExactEventOkRow : OpenClaim := { program := "ytedopmfciabdcaa", sum := "e9708d44d851c21e7e6dc8dfa94bad1fcf80a722bf92edbcea74f65a476a7870", func := "loop.example/g00240/laws.FnExactEventOk", spec := "fnExactEventOk", apart := false }
def FnExactEventOkSaid : Prop := fnExactEventOkRow.holds Try.pinned (OpenSpec.ofChange fnExactEventOkSpec)

/-- ITS FALSE NEIGHBOUR: 'it returns false'. Refute it at one input. -/
def fnExactEventOkWrong : ChangeSpec := { name := "fnExactEventOk", fn := fun _ => fun
  | [d] => { results := [.lit (.bool false)], args := [d] }
  | _ => none }
def FnExactEventOkWrongFalsely : Prop := fnExactEventOkRow.holds Try.pinned (OpenSpec.ofChange fnExactEventOkWrong)

/-- 'laws.FnExactModelDrop': WHATEVER THE INPUT: true; the input reads as it did. -/
def fnExactModelDropSpec : ChangeSpec := { name := "fnExactModelDrop", fn := fun _ => fun
  | [d1, d2] => { results := [.lit (.bool true)], args := [d1, d2] }
  | _ => none }
def fnExactModelDropRow : OpenClaim := { program := "ytedopmfciabdcaa", sum := "e9708d44d851c21e7e6dc8dfa94bad1fcf80a722bf92edbcea74f65a476a7870", func := "loop.example/g00240/laws.FnExactModelDrop", spec := "fnExactModelDrop", unfollowed := true, recurses := true, apart := false }
def FnExactModelDropSaid : Prop := fnExactModelDropRow.holds Try.pinned (OpenSpec.ofChange fnExactModelDropSpec)

/-- ITS FALSE NEIGHBOUR: 'it returns false'. Refute it at one input. -/
def fnExactModelDropWrong : ChangeSpec := { name := "fnExactModelDrop", fn := fun _ => fun
  | [d1, d2] => { results := [.lit (.bool false)], args := [d1, d2] }
  | _ => none }
def FnExactModelDropWrongFalsely : Prop := fnExactModelDropRow.holds Try.pinned (OpenSpec.ofChange fnExactModelDropWrong)

/-- 'laws.FnExactModelPut': WHATEVER THE INPUT: true; the input reads as it did. -/
def fnExactModelPutSpec : ChangeSpec := { name := "fnExactModelPut", fn := fun _ => fun
  | [d1, d2, d3] => { results := [.lit (.bool true)], args := [d1, d2, d3] }
  | _ => none }
def fnExactModelPutRow : OpenClaim := { program := "ytedopmfciabdcaa", sum := "e9708d44d851c21e7e6dc8dfa94bad1fcf80a722bf92edbcea74f65a476a7870", func := "loop.example/g00240/laws.FnExactModelPut", spec := "fnExactModelPut", apart := false }
def FnExactModelPutSaid : Prop := fnExactModelPutRow.holds Try.pinned (OpenSpec.ofChange fnExactModelPutSpec)

/-- ITS FALSE NEIGHBOUR: 'it returns false'. Refute it at one input. -/
def fnExactModelPutWrong : ChangeSpec := { name := "fnExactModelPut", fn := fun _ => fun
  | [d1, d2, d3] => { results := [.lit (.bool false)], args := [d1, d2, d3] }
  | _ => none }
def FnExactModelPutWrongFalsely : Prop := fnExactModelPutRow.holds Try.pinned (OpenSpec.ofChange fnExactModelPutWrong)

/-- 'laws.FnModels': WHATEVER THE INPUT: true; the input reads as it did. -/
def fnModelsSpec : ChangeSpec := { name := "fnModels", fn := fun _ => fun
  | [d] => { results := [.lit (.bool true)], args := [d] }
  | _ => none }
def fnModelsRow : OpenClaim := { program := "ytedopmfciabdcaa", sum := "e9708d44d851c21e7e6dc8dfa94bad1fcf80a722bf92edbcea74f65a476a7870", func := "loop.example/g00240/laws.FnModels", spec := "fnModels", unfollowed := true, recurses := true, apart := false }
def FnModelsSaid : Prop := fnModelsRow.holds Try.pinned (OpenSpec.ofChange fnModelsSpec)

/-- ITS FALSE NEIGHBOUR: 'it returns false'. Refute it at one input. -/
def fnModelsWrong : ChangeSpec := { name := "fnModels", fn := fun _ => fun
  | [d] => { results := [.lit (.bool false)], args := [d] }
  | _ => none }
def FnModelsWrongFalsely : Prop := fnModelsRow.holds Try.pinned (OpenSpec.ofChange fnModelsWrong)

/- THE SECOND FORM. 'bulk': how many values and letters a reading holds, each counted each time it is reached (what is shared counts as often as it is met; a slice's spare places count too). A statement '..UptoSaid' is the law's where the arguments, and the package variables that the reading takes, are together of bulk at most 1048576: NARROWER than '..Said'. Prove '..Said' where nothing that the law and all that it calls make is longer than what came in: it says more and counts as full. Else prove '..UptoSaid'. A law counts once. -/
mutual
def uptoBulk {H : Type} : DataW H → Nat
  | .lit (.string bytes) => bytes.length + 1
  | .lit _ => 1
  | .nil => 1
  | .ptr d => uptoBulk d + 1
  | .slice elems spare => uptoBulkAll elems + uptoBulkAll spare + 1
  | .agg parts => uptoBulkAll parts + 1
  | .iface _ d => uptoBulk d + 1
  | .map entries => uptoBulkEntries entries + 1
  | .held _ => 1
def uptoBulkAll {H : Type} : List (DataW H) → Nat
  | [] => 0
  | d :: r => uptoBulk d + uptoBulkAll r
def uptoBulkEntries {H : Type} : List (Lit × DataW H) → Nat
  | [] => 0
  | x :: r => uptoBulkEntry x + uptoBulkEntries r
def uptoBulkEntry {H : Type} : Lit × DataW H → Nat
  | (.string bytes, d) => bytes.length + uptoBulk d + 1
  | (_, d) => uptoBulk d + 1
 end
def uptoSmall : (H : Type) → List (DataW H) → Bool := fun _ ds => decide (uptoBulkAll ds ≤ 1048576)
def OpenSpec.upto (s : _root_.Go.ChangeSpec) : _root_.Go.OpenSpec := { _root_.Go.OpenSpec.ofChange s with cond := some uptoSmall }

/-- 'laws.FnExactShowPairs', WHERE WHAT IT READS IS OF BULK AT MOST 1048576: true; the input reads as it did. -/
def fnExactShowPairsUptoRow : OpenClaim := { program := "ytedopmfciabdcaa", sum := "e9708d44d851c21e7e6dc8dfa94bad1fcf80a722bf92edbcea74f65a476a7870", func := "loop.example/g00240/laws.FnExactShowPairs", spec := "fnExactShowPairs", apart := false, narrowed := true }
def FnExactShowPairsUptoSaid : Prop := fnExactShowPairsUptoRow.holds Try.pinned (OpenSpec.upto fnExactShowPairsSpec)

/-- 'laws.FnExactSamePairs', WHERE WHAT IT READS IS OF BULK AT MOST 1048576: true; the input reads as it did. -/
def fnExactSamePairsUptoRow : OpenClaim := { program := "ytedopmfciabdcaa", sum := "e9708d44d851c21e7e6dc8dfa94bad1fcf80a722bf92edbcea74f65a476a7870", func := "loop.example/g00240/laws.FnExactSamePairs", spec := "fnExactSamePairs", apart := false, narrowed := true }
def FnExactSamePairsUptoSaid : Prop := fnExactSamePairsUptoRow.holds Try.pinned (OpenSpec.upto fnExactSamePairsSpec)

/-- 'laws.FnExactEventOk', WHERE WHAT IT READS IS OF BULK AT MOST 1048576: true; the input reads as it did. -/
def fnExactEventOkUptoRow : OpenClaim := { program := "ytedopmfciabdcaa", sum := "e9708d44d851c21e7e6dc8dfa94bad1fcf80a722bf92edbcea74f65a476a7870", func := "loop.example/g00240/laws.FnExactEventOk", spec := "fnExactEventOk", apart := false, narrowed := true }
def FnExactEventOkUptoSaid : Prop := fnExactEventOkUptoRow.holds Try.pinned (OpenSpec.upto fnExactEventOkSpec)

/-- 'laws.FnExactModelDrop', WHERE WHAT IT READS IS OF BULK AT MOST 1048576: true; the input reads as it did. -/
def fnExactModelDropUptoRow : OpenClaim := { program := "ytedopmfciabdcaa", sum := "e9708d44d851c21e7e6dc8dfa94bad1fcf80a722bf92edbcea74f65a476a7870", func := "loop.example/g00240/laws.FnExactModelDrop", spec := "fnExactModelDrop", unfollowed := true, recurses := true, apart := false, narrowed := true }
def FnExactModelDropUptoSaid : Prop := fnExactModelDropUptoRow.holds Try.pinned (OpenSpec.upto fnExactModelDropSpec)

/-- 'laws.FnExactModelPut', WHERE WHAT IT READS IS OF BULK AT MOST 1048576: true; the input reads as it did. -/
def fnExactModelPutUptoRow : OpenClaim := { program := "ytedopmfciabdcaa", sum := "e9708d44d851c21e7e6dc8dfa94bad1fcf80a722bf92edbcea74f65a476a7870", func := "loop.example/g00240/laws.FnExactModelPut", spec := "fnExactModelPut", apart := false, narrowed := true }
def FnExactModelPutUptoSaid : Prop := fnExactModelPutUptoRow.holds Try.pinned (OpenSpec.upto fnExactModelPutSpec)

/-- 'laws.FnModels', WHERE WHAT IT READS IS OF BULK AT MOST 1048576: true; the input reads as it did. -/
def fnModelsUptoRow : OpenClaim := { program := "ytedopmfciabdcaa", sum := "e9708d44d851c21e7e6dc8dfa94bad1fcf80a722bf92edbcea74f65a476a7870", func := "loop.example/g00240/laws.FnModels", spec := "fnModels", unfollowed := true, recurses := true, apart := false, narrowed := true }
def FnModelsUptoSaid : Prop := fnModelsUptoRow.holds Try.pinned (OpenSpec.upto fnModelsSpec)

end Rows
end Go.Proofs.Ytedopmfciabdcaa
