/-
  No cell of these rows narrows 'for every input' (looked for: loops, veiled, ifaces, maps, wideKeys, modest, calm, conditions, laid).
  DERIVED. THE GIVEN ROWS OF THIS SEAT. 12 by the template 'for every input the law returns true; each argument reads behind the call as it read before'; 0 by the template 'total and deterministic' (their statements: YtmeinhaecplpkaaGreatTotals.lean).
  GIVEN WITH THE SEED: the statements are not yours to turn. If you find one false, say at which input.
  Laid BY PROGRAM, IN A SANDBOX (cutbox-rows.mjs): the forced cells as the released guide's own fill.sh prints them over the translation 3dd71c870969dcda… (all of the seat's roots in one cut). By AI agents, Wed Nov 11 2026. No macro, syntax, notation, axiom, sorry.
-/
import Derived.Test.YtmeinhaecplpkaaGreatChecked
import GoSem.Claim
import GoSem.ClaimJoined
import GoSem.ClaimMapViews
import Derived.JoinedTies
import Derived.KernelRfl
namespace Go.Proofs.YtmeinhaecplpkaaGreat
/- THE CELL 'sum', in the pinned program and in every row, IS THE sha256 OF THE DUMP (.gsa) THAT YtmeinhaecplpkaaGreatProg.lean LOADS. Nothing in Lean hashes anything: it is a label: what it is worth is what the hold of that sum in a sandbox is worth. -/
noncomputable def Tryz.pinned : Pinned := { name := "ytmeinhaecplpkaagreat", sum := "3dd71c870969dcdaa147ef4b2f4f12918ea901ad30ab4df0ab374c59e3eae3c3", checked := Tryz.checked }
namespace Rows
def none {H : Type} : Left H := { results := [], args := [] }

/-- 'laws.FnGives': WHATEVER THE INPUT: true; the input reads as it did. -/
def fnGivesSpec : ChangeSpec := { name := "fnGives", fn := fun _ => fun
  | [d] => { results := [.lit (.bool true)], args := [d] }
  | _ => none }
def fnGivesRow : OpenClaim := { program := "ytmeinhaecplpkaagreat", sum := "3dd71c870969dcdaa147ef4b2f4f12918ea901ad30ab4df0ab374c59e3eae3c3", func := "loop.example/g00240/laws.FnGives", spec := "fnGives", recurses := true, apart := false }
def FnGivesSaid : Prop := fnGivesRow.holds Tryz.pinned (OpenSpec.ofChange fnGivesSpec)

/-- ITS FALSE NEIGHBOUR: 'it returns false'. Refute it at one input. -/
def fnGivesWrong : ChangeSpec := { name := "fnGives", fn := fun _ => fun
  | [d] => { results := [.lit (.bool false)], args := [d] }
  | _ => none }
def FnGivesWrongFalsely : Prop := fnGivesRow.holds Tryz.pinned (OpenSpec.ofChange fnGivesWrong)

/-- 'laws.FnLooks': WHATEVER THE INPUT: true; the input reads as it did. -/
def fnLooksSpec : ChangeSpec := { name := "fnLooks", fn := fun _ => fun
  | [d] => { results := [.lit (.bool true)], args := [d] }
  | _ => none }
def fnLooksRow : OpenClaim := { program := "ytmeinhaecplpkaagreat", sum := "3dd71c870969dcdaa147ef4b2f4f12918ea901ad30ab4df0ab374c59e3eae3c3", func := "loop.example/g00240/laws.FnLooks", spec := "fnLooks", unfollowed := true, recurses := true, apart := false }
def FnLooksSaid : Prop := fnLooksRow.holds Tryz.pinned (OpenSpec.ofChange fnLooksSpec)

/-- ITS FALSE NEIGHBOUR: 'it returns false'. Refute it at one input. -/
def fnLooksWrong : ChangeSpec := { name := "fnLooks", fn := fun _ => fun
  | [d] => { results := [.lit (.bool false)], args := [d] }
  | _ => none }
def FnLooksWrongFalsely : Prop := fnLooksRow.holds Tryz.pinned (OpenSpec.ofChange fnLooksWrong)

/-- 'laws.FnRanges': WHATEVER THE INPUT: true; the input reads as it did. -/
def fnRangesSpec : ChangeSpec := { name := "fnRanges", fn := fun _ => fun
  | [d] => { results := [.lit (.bool true)], args := [d] }
  | _ => none }
def fnRangesRow : OpenClaim := { program := "ytmeinhaecplpkaagreat", sum := "3dd71c870969dcdaa147ef4b2f4f12918ea901ad30ab4df0ab374c59e3eae3c3", func := "loop.example/g00240/laws.FnRanges", spec := "fnRanges", unfollowed := true, recurses := true, apart := false }
def FnRangesSaid : Prop := fnRangesRow.holds Tryz.pinned (OpenSpec.ofChange fnRangesSpec)

/-- ITS FALSE NEIGHBOUR: 'it returns false'. Refute it at one input. -/
def fnRangesWrong : ChangeSpec := { name := "fnRanges", fn := fun _ => fun
  | [d] => { results := [.lit (.bool false)], args := [d] }
  | _ => none }
def FnRangesWrongFalsely : Prop := fnRangesRow.holds Tryz.pinned (OpenSpec.ofChange fnRangesWrong)

/-- 'laws.FnOpens': WHATEVER THE INPUT: true; the input reads as it did. -/
def fnOpensSpec : ChangeSpec := { name := "fnOpens", fn := fun _ => fun
  | [d] => { results := [.lit (.bool true)], args := [d] }
  | _ => none }
def fnOpensRow : OpenClaim := { program := "ytmeinhaecplpkaagreat", sum := "3dd71c870969dcdaa147ef4b2f4f12918ea901ad30ab4df0ab374c59e3eae3c3", func := "loop.example/g00240/laws.FnOpens", spec := "fnOpens", unfollowed := true, recurses := true, apart := false }
def FnOpensSaid : Prop := fnOpensRow.holds Tryz.pinned (OpenSpec.ofChange fnOpensSpec)

/-- ITS FALSE NEIGHBOUR: 'it returns false'. Refute it at one input. -/
def fnOpensWrong : ChangeSpec := { name := "fnOpens", fn := fun _ => fun
  | [d] => { results := [.lit (.bool false)], args := [d] }
  | _ => none }
def FnOpensWrongFalsely : Prop := fnOpensRow.holds Tryz.pinned (OpenSpec.ofChange fnOpensWrong)

/-- 'laws.FnBuilds': WHATEVER THE INPUT: true; the input reads as it did. -/
def fnBuildsSpec : ChangeSpec := { name := "fnBuilds", fn := fun _ => fun
  | [d] => { results := [.lit (.bool true)], args := [d] }
  | _ => none }
def fnBuildsRow : OpenClaim := { program := "ytmeinhaecplpkaagreat", sum := "3dd71c870969dcdaa147ef4b2f4f12918ea901ad30ab4df0ab374c59e3eae3c3", func := "loop.example/g00240/laws.FnBuilds", spec := "fnBuilds", unfollowed := true, recurses := true, apart := false }
def FnBuildsSaid : Prop := fnBuildsRow.holds Tryz.pinned (OpenSpec.ofChange fnBuildsSpec)

/-- ITS FALSE NEIGHBOUR: 'it returns false'. Refute it at one input. -/
def fnBuildsWrong : ChangeSpec := { name := "fnBuilds", fn := fun _ => fun
  | [d] => { results := [.lit (.bool false)], args := [d] }
  | _ => none }
def FnBuildsWrongFalsely : Prop := fnBuildsRow.holds Tryz.pinned (OpenSpec.ofChange fnBuildsWrong)

/-- 'laws.FnPutsNodes': WHATEVER THE INPUT: true; the input reads as it did. -/
def fnPutsNodesSpec : ChangeSpec := { name := "fnPutsNodes", fn := fun _ => fun
  | [d] => { results := [.lit (.bool true)], args := [d] }
  | _ => none }
def fnPutsNodesRow : OpenClaim := { program := "ytmeinhaecplpkaagreat", sum := "3dd71c870969dcdaa147ef4b2f4f12918ea901ad30ab4df0ab374c59e3eae3c3", func := "loop.example/g00240/laws.FnPutsNodes", spec := "fnPutsNodes", unfollowed := true, recurses := true, apart := false }
def FnPutsNodesSaid : Prop := fnPutsNodesRow.holds Tryz.pinned (OpenSpec.ofChange fnPutsNodesSpec)

/-- ITS FALSE NEIGHBOUR: 'it returns false'. Refute it at one input. -/
def fnPutsNodesWrong : ChangeSpec := { name := "fnPutsNodes", fn := fun _ => fun
  | [d] => { results := [.lit (.bool false)], args := [d] }
  | _ => none }
def FnPutsNodesWrongFalsely : Prop := fnPutsNodesRow.holds Tryz.pinned (OpenSpec.ofChange fnPutsNodesWrong)

/-- 'laws.FnPagesOfTree': WHATEVER THE INPUT: true; the input reads as it did. -/
def fnPagesOfTreeSpec : ChangeSpec := { name := "fnPagesOfTree", fn := fun _ => fun
  | [d] => { results := [.lit (.bool true)], args := [d] }
  | _ => none }
def fnPagesOfTreeRow : OpenClaim := { program := "ytmeinhaecplpkaagreat", sum := "3dd71c870969dcdaa147ef4b2f4f12918ea901ad30ab4df0ab374c59e3eae3c3", func := "loop.example/g00240/laws.FnPagesOfTree", spec := "fnPagesOfTree", unfollowed := true, recurses := true, apart := false }
def FnPagesOfTreeSaid : Prop := fnPagesOfTreeRow.holds Tryz.pinned (OpenSpec.ofChange fnPagesOfTreeSpec)

/-- ITS FALSE NEIGHBOUR: 'it returns false'. Refute it at one input. -/
def fnPagesOfTreeWrong : ChangeSpec := { name := "fnPagesOfTree", fn := fun _ => fun
  | [d] => { results := [.lit (.bool false)], args := [d] }
  | _ => none }
def FnPagesOfTreeWrongFalsely : Prop := fnPagesOfTreeRow.holds Tryz.pinned (OpenSpec.ofChange fnPagesOfTreeWrong)

/-- 'laws.FnNotUsable': WHATEVER THE INPUT: true; the input reads as it did. -/
def fnNotUsableSpec : ChangeSpec := { name := "fnNotUsable", fn := fun _ => fun
  | [d] => { results := [.lit (.bool true)], args := [d] }
  | _ => none }
def fnNotUsableRow : OpenClaim := { program := "ytmeinhaecplpkaagreat", sum := "3dd71c870969dcdaa147ef4b2f4f12918ea901ad30ab4df0ab374c59e3eae3c3", func := "loop.example/g00240/laws.FnNotUsable", spec := "fnNotUsable", recurses := true, apart := false }
def FnNotUsableSaid : Prop := fnNotUsableRow.holds Tryz.pinned (OpenSpec.ofChange fnNotUsableSpec)

/-- ITS FALSE NEIGHBOUR: 'it returns false'. Refute it at one input. -/
def fnNotUsableWrong : ChangeSpec := { name := "fnNotUsable", fn := fun _ => fun
  | [d] => { results := [.lit (.bool false)], args := [d] }
  | _ => none }
def FnNotUsableWrongFalsely : Prop := fnNotUsableRow.holds Tryz.pinned (OpenSpec.ofChange fnNotUsableWrong)

/-- 'laws.FnBegins': WHATEVER THE INPUT: true; the input reads as it did. -/
def fnBeginsSpec : ChangeSpec := { name := "fnBegins", fn := fun _ => fun
  | [d] => { results := [.lit (.bool true)], args := [d] }
  | _ => none }
def fnBeginsRow : OpenClaim := { program := "ytmeinhaecplpkaagreat", sum := "3dd71c870969dcdaa147ef4b2f4f12918ea901ad30ab4df0ab374c59e3eae3c3", func := "loop.example/g00240/laws.FnBegins", spec := "fnBegins", unfollowed := true, recurses := true, apart := false }
def FnBeginsSaid : Prop := fnBeginsRow.holds Tryz.pinned (OpenSpec.ofChange fnBeginsSpec)

/-- ITS FALSE NEIGHBOUR: 'it returns false'. Refute it at one input. -/
def fnBeginsWrong : ChangeSpec := { name := "fnBegins", fn := fun _ => fun
  | [d] => { results := [.lit (.bool false)], args := [d] }
  | _ => none }
def FnBeginsWrongFalsely : Prop := fnBeginsRow.holds Tryz.pinned (OpenSpec.ofChange fnBeginsWrong)

/-- 'laws.FnCommits': WHATEVER THE INPUT: true; the input reads as it did. -/
def fnCommitsSpec : ChangeSpec := { name := "fnCommits", fn := fun _ => fun
  | [d] => { results := [.lit (.bool true)], args := [d] }
  | _ => none }
def fnCommitsRow : OpenClaim := { program := "ytmeinhaecplpkaagreat", sum := "3dd71c870969dcdaa147ef4b2f4f12918ea901ad30ab4df0ab374c59e3eae3c3", func := "loop.example/g00240/laws.FnCommits", spec := "fnCommits", unfollowed := true, recurses := true, apart := false }
def FnCommitsSaid : Prop := fnCommitsRow.holds Tryz.pinned (OpenSpec.ofChange fnCommitsSpec)

/-- ITS FALSE NEIGHBOUR: 'it returns false'. Refute it at one input. -/
def fnCommitsWrong : ChangeSpec := { name := "fnCommits", fn := fun _ => fun
  | [d] => { results := [.lit (.bool false)], args := [d] }
  | _ => none }
def FnCommitsWrongFalsely : Prop := fnCommitsRow.holds Tryz.pinned (OpenSpec.ofChange fnCommitsWrong)

/-- 'laws.FnCuts': WHATEVER THE INPUT: true; the input reads as it did. -/
def fnCutsSpec : ChangeSpec := { name := "fnCuts", fn := fun _ => fun
  | [d] => { results := [.lit (.bool true)], args := [d] }
  | _ => none }
def fnCutsRow : OpenClaim := { program := "ytmeinhaecplpkaagreat", sum := "3dd71c870969dcdaa147ef4b2f4f12918ea901ad30ab4df0ab374c59e3eae3c3", func := "loop.example/g00240/laws.FnCuts", spec := "fnCuts", unfollowed := true, recurses := true, apart := false }
def FnCutsSaid : Prop := fnCutsRow.holds Tryz.pinned (OpenSpec.ofChange fnCutsSpec)

/-- ITS FALSE NEIGHBOUR: 'it returns false'. Refute it at one input. -/
def fnCutsWrong : ChangeSpec := { name := "fnCuts", fn := fun _ => fun
  | [d] => { results := [.lit (.bool false)], args := [d] }
  | _ => none }
def FnCutsWrongFalsely : Prop := fnCutsRow.holds Tryz.pinned (OpenSpec.ofChange fnCutsWrong)

/-- 'laws.FnChanges': WHATEVER THE INPUT: true; the input reads as it did. -/
def fnChangesSpec : ChangeSpec := { name := "fnChanges", fn := fun _ => fun
  | [d] => { results := [.lit (.bool true)], args := [d] }
  | _ => none }
def fnChangesRow : OpenClaim := { program := "ytmeinhaecplpkaagreat", sum := "3dd71c870969dcdaa147ef4b2f4f12918ea901ad30ab4df0ab374c59e3eae3c3", func := "loop.example/g00240/laws.FnChanges", spec := "fnChanges", inPlace := ["slices.overlaps[string]", "slices.overlaps[int]"], unfollowed := true, recurses := true, apart := false }
def FnChangesSaid : Prop := fnChangesRow.holds Tryz.pinned (OpenSpec.ofChange fnChangesSpec)

/-- ITS FALSE NEIGHBOUR: 'it returns false'. Refute it at one input. -/
def fnChangesWrong : ChangeSpec := { name := "fnChanges", fn := fun _ => fun
  | [d] => { results := [.lit (.bool false)], args := [d] }
  | _ => none }
def FnChangesWrongFalsely : Prop := fnChangesRow.holds Tryz.pinned (OpenSpec.ofChange fnChangesWrong)

/- THE SECOND FORM. 'bulk': how many values and letters a reading holds, each counted each time it is reached (what is shared counts as often as it is met; a slice's spare places count too). A statement '..UptoSaid' is the law's where the arguments, and the package variables that the reading takes, are together of bulk at most 1048576: NARROWER than '..Said'. Prove '..Said' where nothing that the law and all that it calls make is longer than what came in: it says more and counts as full. Else prove '..UptoSaid'. A law counts once. -/
mutual
def uptoBulk {H : Type} : DataW H → Nat
  | .lit (.string bytes) => bytes.length + 1
  | .lit _ => 1
  | .nil => 1
  | .ptr d => uptoBulk d + 1
  | .slice elems spare => uptoBulkAll elems + uptoBulkAll spare + 1
  | .agg parts => uptoBulkAll parts + 1
  | .iface _ d => uptoBulk d + 1
  | .map entries => uptoBulkEntries entries + 1
  | .held _ => 1
def uptoBulkAll {H : Type} : List (DataW H) → Nat
  | [] => 0
  | d :: r => uptoBulk d + uptoBulkAll r
def uptoBulkEntries {H : Type} : List (Lit × DataW H) → Nat
  | [] => 0
  | x :: r => uptoBulkEntry x + uptoBulkEntries r
def uptoBulkEntry {H : Type} : Lit × DataW H → Nat
  | (.string bytes, d) => bytes.length + uptoBulk d + 1
  | (_, d) => uptoBulk d + 1
 end
def uptoSmall : (H : Type) → List (DataW H) → Bool := fun _ ds => decide (uptoBulkAll ds ≤ 1048576)
def OpenSpec.upto (s : _root_.Go.ChangeSpec) : _root_.Go.OpenSpec := { _root_.Go.OpenSpec.ofChange s with cond := some uptoSmall }

/-- 'laws.FnGives', WHERE WHAT IT READS IS OF BULK AT MOST 1048576: true; the input reads as it did. -/
def fnGivesUptoRow : OpenClaim := { program := "ytmeinhaecplpkaagreat", sum := "3dd71c870969dcdaa147ef4b2f4f12918ea901ad30ab4df0ab374c59e3eae3c3", func := "loop.example/g00240/laws.FnGives", spec := "fnGives", recurses := true, apart := false, narrowed := true }
def FnGivesUptoSaid : Prop := fnGivesUptoRow.holds Tryz.pinned (OpenSpec.upto fnGivesSpec)

/-- 'laws.FnLooks', WHERE WHAT IT READS IS OF BULK AT MOST 1048576: true; the input reads as it did. -/
def fnLooksUptoRow : OpenClaim := { program := "ytmeinhaecplpkaagreat", sum := "3dd71c870969dcdaa147ef4b2f4f12918ea901ad30ab4df0ab374c59e3eae3c3", func := "loop.example/g00240/laws.FnLooks", spec := "fnLooks", unfollowed := true, recurses := true, apart := false, narrowed := true }
def FnLooksUptoSaid : Prop := fnLooksUptoRow.holds Tryz.pinned (OpenSpec.upto fnLooksSpec)

/-- 'laws.FnRanges', WHERE WHAT IT READS IS OF BULK AT MOST 1048576: true; the input reads as it did. -/
def fnRangesUptoRow : OpenClaim := { program := "ytmeinhaecplpkaagreat", sum := "3dd71c870969dcdaa147ef4b2f4f12918ea901ad30ab4df0ab374c59e3eae3c3", func := "loop.example/g00240/laws.FnRanges", spec := "fnRanges", unfollowed := true, recurses := true, apart := false, narrowed := true }
def FnRangesUptoSaid : Prop := fnRangesUptoRow.holds Tryz.pinned (OpenSpec.upto fnRangesSpec)

/-- 'laws.FnOpens', WHERE WHAT IT READS IS OF BULK AT MOST 1048576: true; the input reads as it did. -/
def fnOpensUptoRow : OpenClaim := { program := "ytmeinhaecplpkaagreat", sum := "3dd71c870969dcdaa147ef4b2f4f12918ea901ad30ab4df0ab374c59e3eae3c3", func := "loop.example/g00240/laws.FnOpens", spec := "fnOpens", unfollowed := true, recurses := true, apart := false, narrowed := true }
def FnOpensUptoSaid : Prop := fnOpensUptoRow.holds Tryz.pinned (OpenSpec.upto fnOpensSpec)

/-- 'laws.FnBuilds', WHERE WHAT IT READS IS OF BULK AT MOST 1048576: true; the input reads as it did. -/
def fnBuildsUptoRow : OpenClaim := { program := "ytmeinhaecplpkaagreat", sum := "3dd71c870969dcdaa147ef4b2f4f12918ea901ad30ab4df0ab374c59e3eae3c3", func := "loop.example/g00240/laws.FnBuilds", spec := "fnBuilds", unfollowed := true, recurses := true, apart := false, narrowed := true }
def FnBuildsUptoSaid : Prop := fnBuildsUptoRow.holds Tryz.pinned (OpenSpec.upto fnBuildsSpec)

/-- 'laws.FnPutsNodes', WHERE WHAT IT READS IS OF BULK AT MOST 1048576: true; the input reads as it did. -/
def fnPutsNodesUptoRow : OpenClaim := { program := "ytmeinhaecplpkaagreat", sum := "3dd71c870969dcdaa147ef4b2f4f12918ea901ad30ab4df0ab374c59e3eae3c3", func := "loop.example/g00240/laws.FnPutsNodes", spec := "fnPutsNodes", unfollowed := true, recurses := true, apart := false, narrowed := true }
def FnPutsNodesUptoSaid : Prop := fnPutsNodesUptoRow.holds Tryz.pinned (OpenSpec.upto fnPutsNodesSpec)

/-- 'laws.FnPagesOfTree', WHERE WHAT IT READS IS OF BULK AT MOST 1048576: true; the input reads as it did. -/
def fnPagesOfTreeUptoRow : OpenClaim := { program := "ytmeinhaecplpkaagreat", sum := "3dd71c870969dcdaa147ef4b2f4f12918ea901ad30ab4df0ab374c59e3eae3c3", func := "loop.example/g00240/laws.FnPagesOfTree", spec := "fnPagesOfTree", unfollowed := true, recurses := true, apart := false, narrowed := true }
def FnPagesOfTreeUptoSaid : Prop := fnPagesOfTreeUptoRow.holds Tryz.pinned (OpenSpec.upto fnPagesOfTreeSpec)

/-- 'laws.FnNotUsable', WHERE WHAT IT READS IS OF BULK AT MOST 1048576: true; the input reads as it did. -/
def fnNotUsableUptoRow : OpenClaim := { program := "ytmeinhaecplpkaagreat", sum := "3dd71c870969dcdaa147ef4b2f4f12918ea901ad30ab4df0ab374c59e3eae3c3", func := "loop.example/g00240/laws.FnNotUsable", spec := "fnNotUsable", recurses := true, apart := false, narrowed := true }
def FnNotUsableUptoSaid : Prop := fnNotUsableUptoRow.holds Tryz.pinned (OpenSpec.upto fnNotUsableSpec)

/-- 'laws.FnBegins', WHERE WHAT IT READS IS OF BULK AT MOST 1048576: true; the input reads as it did. -/
def fnBeginsUptoRow : OpenClaim := { program := "ytmeinhaecplpkaagreat", sum := "3dd71c870969dcdaa147ef4b2f4f12918ea901ad30ab4df0ab374c59e3eae3c3", func := "loop.example/g00240/laws.FnBegins", spec := "fnBegins", unfollowed := true, recurses := true, apart := false, narrowed := true }
def FnBeginsUptoSaid : Prop := fnBeginsUptoRow.holds Tryz.pinned (OpenSpec.upto fnBeginsSpec)

/-- 'laws.FnCommits', WHERE WHAT IT READS IS OF BULK AT MOST 1048576: true; the input reads as it did. -/
def fnCommitsUptoRow : OpenClaim := { program := "ytmeinhaecplpkaagreat", sum := "3dd71c870969dcdaa147ef4b2f4f12918ea901ad30ab4df0ab374c59e3eae3c3", func := "loop.example/g00240/laws.FnCommits", spec := "fnCommits", unfollowed := true, recurses := true, apart := false, narrowed := true }
def FnCommitsUptoSaid : Prop := fnCommitsUptoRow.holds Tryz.pinned (OpenSpec.upto fnCommitsSpec)

/-- 'laws.FnCuts', WHERE WHAT IT READS IS OF BULK AT MOST 1048576: true; the input reads as it did. -/
def fnCutsUptoRow : OpenClaim := { program := "ytmeinhaecplpkaagreat", sum := "3dd71c870969dcdaa147ef4b2f4f12918ea901ad30ab4df0ab374c59e3eae3c3", func := "loop.example/g00240/laws.FnCuts", spec := "fnCuts", unfollowed := true, recurses := true, apart := false, narrowed := true }
def FnCutsUptoSaid : Prop := fnCutsUptoRow.holds Tryz.pinned (OpenSpec.upto fnCutsSpec)

/-- 'laws.FnChanges', WHERE WHAT IT READS IS OF BULK AT MOST 1048576: true; the input reads as it did. -/
def fnChangesUptoRow : OpenClaim := { program := "ytmeinhaecplpkaagreat", sum := "3dd71c870969dcdaa147ef4b2f4f12918ea901ad30ab4df0ab374c59e3eae3c3", func := "loop.example/g00240/laws.FnChanges", spec := "fnChanges", inPlace := ["slices.overlaps[string]", "slices.overlaps[int]"], unfollowed := true, recurses := true, apart := false, narrowed := true }
def FnChangesUptoSaid : Prop := fnChangesUptoRow.holds Tryz.pinned (OpenSpec.upto fnChangesSpec)

end Rows
end Go.Proofs.YtmeinhaecplpkaaGreat
