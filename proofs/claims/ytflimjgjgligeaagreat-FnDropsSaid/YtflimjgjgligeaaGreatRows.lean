/-
  No cell of these rows narrows 'for every input' (looked for: loops, veiled, ifaces, maps, wideKeys, modest, calm, conditions, laid).
  DERIVED. THE GIVEN ROWS OF THIS SEAT. 11 by the template 'for every input the law returns true; each argument reads behind the call as it read before'; 0 by the template 'total and deterministic' (their statements: YtflimjgjgligeaaGreatTotals.lean).
  GIVEN WITH THE SEED: the statements are not yours to turn. If you find one false, say at which input.
  Laid BY PROGRAM, IN A SANDBOX (cutbox-rows.mjs): the forced cells as the released guide's own fill.sh prints them over the translation fd38267152567488… (all of the seat's roots in one cut). By AI agents, Wed Nov 11 2026. No macro, syntax, notation, axiom, sorry.
-/
import Derived.Test.YtflimjgjgligeaaGreatChecked
import GoSem.Claim
import GoSem.ClaimJoined
import GoSem.ClaimMapViews
import Derived.JoinedTies
import Derived.KernelRfl
namespace Go.Proofs.YtflimjgjgligeaaGreat
/- THE CELL 'sum', in the pinned program and in every row, IS THE sha256 OF THE DUMP (.gsa) THAT YtflimjgjgligeaaGreatProg.lean LOADS. Nothing in Lean hashes anything: it is a label: what it is worth is what the hold of that sum in a sandbox is worth. -/
noncomputable def Tryz.pinned : Pinned := { name := "ytflimjgjgligeaagreat", sum := "fd3826715256748858c89ed4c0819d1ec643867a0f3ad73cebd74e878cf22f95", checked := Tryz.checked }
namespace Rows
def none {H : Type} : Left H := { results := [], args := [] }

/-- 'laws.FnLooks': WHATEVER THE INPUT: true; the input reads as it did. -/
def fnLooksSpec : ChangeSpec := { name := "fnLooks", fn := fun _ => fun
  | [d] => { results := [.lit (.bool true)], args := [d] }
  | _ => none }
def fnLooksRow : OpenClaim := { program := "ytflimjgjgligeaagreat", sum := "fd3826715256748858c89ed4c0819d1ec643867a0f3ad73cebd74e878cf22f95", func := "loop.example/g00240/laws.FnLooks", spec := "fnLooks", unfollowed := true, recurses := true, apart := false }
def FnLooksSaid : Prop := fnLooksRow.holds Tryz.pinned (OpenSpec.ofChange fnLooksSpec)

/-- ITS FALSE NEIGHBOUR: 'it returns false'. Refute it at one input. -/
def fnLooksWrong : ChangeSpec := { name := "fnLooks", fn := fun _ => fun
  | [d] => { results := [.lit (.bool false)], args := [d] }
  | _ => none }
def FnLooksWrongFalsely : Prop := fnLooksRow.holds Tryz.pinned (OpenSpec.ofChange fnLooksWrong)

/-- 'laws.FnRanges': WHATEVER THE INPUT: true; the input reads as it did. -/
def fnRangesSpec : ChangeSpec := { name := "fnRanges", fn := fun _ => fun
  | [d] => { results := [.lit (.bool true)], args := [d] }
  | _ => none }
def fnRangesRow : OpenClaim := { program := "ytflimjgjgligeaagreat", sum := "fd3826715256748858c89ed4c0819d1ec643867a0f3ad73cebd74e878cf22f95", func := "loop.example/g00240/laws.FnRanges", spec := "fnRanges", unfollowed := true, recurses := true, apart := false }
def FnRangesSaid : Prop := fnRangesRow.holds Tryz.pinned (OpenSpec.ofChange fnRangesSpec)

/-- ITS FALSE NEIGHBOUR: 'it returns false'. Refute it at one input. -/
def fnRangesWrong : ChangeSpec := { name := "fnRanges", fn := fun _ => fun
  | [d] => { results := [.lit (.bool false)], args := [d] }
  | _ => none }
def FnRangesWrongFalsely : Prop := fnRangesRow.holds Tryz.pinned (OpenSpec.ofChange fnRangesWrong)

/-- 'laws.FnOpens': WHATEVER THE INPUT: true; the input reads as it did. -/
def fnOpensSpec : ChangeSpec := { name := "fnOpens", fn := fun _ => fun
  | [d] => { results := [.lit (.bool true)], args := [d] }
  | _ => none }
def fnOpensRow : OpenClaim := { program := "ytflimjgjgligeaagreat", sum := "fd3826715256748858c89ed4c0819d1ec643867a0f3ad73cebd74e878cf22f95", func := "loop.example/g00240/laws.FnOpens", spec := "fnOpens", unfollowed := true, recurses := true, apart := false }
def FnOpensSaid : Prop := fnOpensRow.holds Tryz.pinned (OpenSpec.ofChange fnOpensSpec)

/-- ITS FALSE NEIGHBOUR: 'it returns false'. Refute it at one input. -/
def fnOpensWrong : ChangeSpec := { name := "fnOpens", fn := fun _ => fun
  | [d] => { results := [.lit (.bool false)], args := [d] }
  | _ => none }
def FnOpensWrongFalsely : Prop := fnOpensRow.holds Tryz.pinned (OpenSpec.ofChange fnOpensWrong)

/-- 'laws.FnBuilds': WHATEVER THE INPUT: true; the input reads as it did. -/
def fnBuildsSpec : ChangeSpec := { name := "fnBuilds", fn := fun _ => fun
  | [d] => { results := [.lit (.bool true)], args := [d] }
  | _ => none }
def fnBuildsRow : OpenClaim := { program := "ytflimjgjgligeaagreat", sum := "fd3826715256748858c89ed4c0819d1ec643867a0f3ad73cebd74e878cf22f95", func := "loop.example/g00240/laws.FnBuilds", spec := "fnBuilds", unfollowed := true, recurses := true, apart := false }
def FnBuildsSaid : Prop := fnBuildsRow.holds Tryz.pinned (OpenSpec.ofChange fnBuildsSpec)

/-- ITS FALSE NEIGHBOUR: 'it returns false'. Refute it at one input. -/
def fnBuildsWrong : ChangeSpec := { name := "fnBuilds", fn := fun _ => fun
  | [d] => { results := [.lit (.bool false)], args := [d] }
  | _ => none }
def FnBuildsWrongFalsely : Prop := fnBuildsRow.holds Tryz.pinned (OpenSpec.ofChange fnBuildsWrong)

/-- 'laws.FnPutsNodes': WHATEVER THE INPUT: true; the input reads as it did. -/
def fnPutsNodesSpec : ChangeSpec := { name := "fnPutsNodes", fn := fun _ => fun
  | [d] => { results := [.lit (.bool true)], args := [d] }
  | _ => none }
def fnPutsNodesRow : OpenClaim := { program := "ytflimjgjgligeaagreat", sum := "fd3826715256748858c89ed4c0819d1ec643867a0f3ad73cebd74e878cf22f95", func := "loop.example/g00240/laws.FnPutsNodes", spec := "fnPutsNodes", unfollowed := true, recurses := true, apart := false }
def FnPutsNodesSaid : Prop := fnPutsNodesRow.holds Tryz.pinned (OpenSpec.ofChange fnPutsNodesSpec)

/-- ITS FALSE NEIGHBOUR: 'it returns false'. Refute it at one input. -/
def fnPutsNodesWrong : ChangeSpec := { name := "fnPutsNodes", fn := fun _ => fun
  | [d] => { results := [.lit (.bool false)], args := [d] }
  | _ => none }
def FnPutsNodesWrongFalsely : Prop := fnPutsNodesRow.holds Tryz.pinned (OpenSpec.ofChange fnPutsNodesWrong)

/-- 'laws.FnChanges': WHATEVER THE INPUT: true; the input reads as it did. -/
def fnChangesSpec : ChangeSpec := { name := "fnChanges", fn := fun _ => fun
  | [d] => { results := [.lit (.bool true)], args := [d] }
  | _ => none }
def fnChangesRow : OpenClaim := { program := "ytflimjgjgligeaagreat", sum := "fd3826715256748858c89ed4c0819d1ec643867a0f3ad73cebd74e878cf22f95", func := "loop.example/g00240/laws.FnChanges", spec := "fnChanges", inPlace := ["slices.overlaps[string]", "slices.overlaps[int]"], unfollowed := true, recurses := true, apart := false }
def FnChangesSaid : Prop := fnChangesRow.holds Tryz.pinned (OpenSpec.ofChange fnChangesSpec)

/-- ITS FALSE NEIGHBOUR: 'it returns false'. Refute it at one input. -/
def fnChangesWrong : ChangeSpec := { name := "fnChanges", fn := fun _ => fun
  | [d] => { results := [.lit (.bool false)], args := [d] }
  | _ => none }
def FnChangesWrongFalsely : Prop := fnChangesRow.holds Tryz.pinned (OpenSpec.ofChange fnChangesWrong)

/-- 'laws.FnPutMany': WHATEVER THE INPUT: true; the input reads as it did. -/
def fnPutManySpec : ChangeSpec := { name := "fnPutMany", fn := fun _ => fun
  | [d] => { results := [.lit (.bool true)], args := [d] }
  | _ => none }
def fnPutManyRow : OpenClaim := { program := "ytflimjgjgligeaagreat", sum := "fd3826715256748858c89ed4c0819d1ec643867a0f3ad73cebd74e878cf22f95", func := "loop.example/g00240/laws.FnPutMany", spec := "fnPutMany", inPlace := ["slices.overlaps[string]", "slices.overlaps[int]"], unfollowed := true, recurses := true, apart := false }
def FnPutManySaid : Prop := fnPutManyRow.holds Tryz.pinned (OpenSpec.ofChange fnPutManySpec)

/-- ITS FALSE NEIGHBOUR: 'it returns false'. Refute it at one input. -/
def fnPutManyWrong : ChangeSpec := { name := "fnPutMany", fn := fun _ => fun
  | [d] => { results := [.lit (.bool false)], args := [d] }
  | _ => none }
def FnPutManyWrongFalsely : Prop := fnPutManyRow.holds Tryz.pinned (OpenSpec.ofChange fnPutManyWrong)

/-- 'laws.FnPuts': WHATEVER THE INPUT: true; the input reads as it did. -/
def fnPutsSpec : ChangeSpec := { name := "fnPuts", fn := fun _ => fun
  | [d] => { results := [.lit (.bool true)], args := [d] }
  | _ => none }
def fnPutsRow : OpenClaim := { program := "ytflimjgjgligeaagreat", sum := "fd3826715256748858c89ed4c0819d1ec643867a0f3ad73cebd74e878cf22f95", func := "loop.example/g00240/laws.FnPuts", spec := "fnPuts", inPlace := ["slices.overlaps[string]", "slices.overlaps[int]"], unfollowed := true, recurses := true, apart := false }
def FnPutsSaid : Prop := fnPutsRow.holds Tryz.pinned (OpenSpec.ofChange fnPutsSpec)

/-- ITS FALSE NEIGHBOUR: 'it returns false'. Refute it at one input. -/
def fnPutsWrong : ChangeSpec := { name := "fnPuts", fn := fun _ => fun
  | [d] => { results := [.lit (.bool false)], args := [d] }
  | _ => none }
def FnPutsWrongFalsely : Prop := fnPutsRow.holds Tryz.pinned (OpenSpec.ofChange fnPutsWrong)

/-- 'laws.FnDrops': WHATEVER THE INPUT: true; the input reads as it did. -/
def fnDropsSpec : ChangeSpec := { name := "fnDrops", fn := fun _ => fun
  | [d] => { results := [.lit (.bool true)], args := [d] }
  | _ => none }
def fnDropsRow : OpenClaim := { program := "ytflimjgjgligeaagreat", sum := "fd3826715256748858c89ed4c0819d1ec643867a0f3ad73cebd74e878cf22f95", func := "loop.example/g00240/laws.FnDrops", spec := "fnDrops", inPlace := ["slices.overlaps[int]"], unfollowed := true, recurses := true, apart := false }
def FnDropsSaid : Prop := fnDropsRow.holds Tryz.pinned (OpenSpec.ofChange fnDropsSpec)

/-- ITS FALSE NEIGHBOUR: 'it returns false'. Refute it at one input. -/
def fnDropsWrong : ChangeSpec := { name := "fnDrops", fn := fun _ => fun
  | [d] => { results := [.lit (.bool false)], args := [d] }
  | _ => none }
def FnDropsWrongFalsely : Prop := fnDropsRow.holds Tryz.pinned (OpenSpec.ofChange fnDropsWrong)

/-- 'laws.FnFull': WHATEVER THE INPUT: true; the input reads as it did. -/
def fnFullSpec : ChangeSpec := { name := "fnFull", fn := fun _ => fun
  | [d] => { results := [.lit (.bool true)], args := [d] }
  | _ => none }
def fnFullRow : OpenClaim := { program := "ytflimjgjgligeaagreat", sum := "fd3826715256748858c89ed4c0819d1ec643867a0f3ad73cebd74e878cf22f95", func := "loop.example/g00240/laws.FnFull", spec := "fnFull", inPlace := ["slices.overlaps[string]", "slices.overlaps[int]"], unfollowed := true, recurses := true, apart := false }
def FnFullSaid : Prop := fnFullRow.holds Tryz.pinned (OpenSpec.ofChange fnFullSpec)

/-- ITS FALSE NEIGHBOUR: 'it returns false'. Refute it at one input. -/
def fnFullWrong : ChangeSpec := { name := "fnFull", fn := fun _ => fun
  | [d] => { results := [.lit (.bool false)], args := [d] }
  | _ => none }
def FnFullWrongFalsely : Prop := fnFullRow.holds Tryz.pinned (OpenSpec.ofChange fnFullWrong)

/-- 'laws.FnLongLife': WHATEVER THE INPUT: true; the input reads as it did. -/
def fnLongLifeSpec : ChangeSpec := { name := "fnLongLife", fn := fun _ => fun
  | [d] => { results := [.lit (.bool true)], args := [d] }
  | _ => none }
def fnLongLifeRow : OpenClaim := { program := "ytflimjgjgligeaagreat", sum := "fd3826715256748858c89ed4c0819d1ec643867a0f3ad73cebd74e878cf22f95", func := "loop.example/g00240/laws.FnLongLife", spec := "fnLongLife", inPlace := ["slices.overlaps[loop.example/g00240/impl.Reader]", "slices.overlaps[string]", "slices.overlaps[int]"], unfollowed := true, recurses := true, apart := false }
def FnLongLifeSaid : Prop := fnLongLifeRow.holds Tryz.pinned (OpenSpec.ofChange fnLongLifeSpec)

/-- ITS FALSE NEIGHBOUR: 'it returns false'. Refute it at one input. -/
def fnLongLifeWrong : ChangeSpec := { name := "fnLongLife", fn := fun _ => fun
  | [d] => { results := [.lit (.bool false)], args := [d] }
  | _ => none }
def FnLongLifeWrongFalsely : Prop := fnLongLifeRow.holds Tryz.pinned (OpenSpec.ofChange fnLongLifeWrong)

/- THE SECOND FORM. 'bulk': how many values and letters a reading holds, each counted each time it is reached (what is shared counts as often as it is met; a slice's spare places count too). A statement '..UptoSaid' is the law's where the arguments, and the package variables that the reading takes, are together of bulk at most 1048576: NARROWER than '..Said'. Prove '..Said' where nothing that the law and all that it calls make is longer than what came in: it says more and counts as full. Else prove '..UptoSaid'. A law counts once. -/
mutual
def uptoBulk {H : Type} : DataW H → Nat
  | .lit (.string bytes) => bytes.length + 1
  | .lit _ => 1
  | .nil => 1
  | .ptr d => uptoBulk d + 1
  | .slice elems spare => uptoBulkAll elems + uptoBulkAll spare + 1
  | .agg parts => uptoBulkAll parts + 1
  | .iface _ d => uptoBulk d + 1
  | .map entries => uptoBulkEntries entries + 1
  | .held _ => 1
def uptoBulkAll {H : Type} : List (DataW H) → Nat
  | [] => 0
  | d :: r => uptoBulk d + uptoBulkAll r
def uptoBulkEntries {H : Type} : List (Lit × DataW H) → Nat
  | [] => 0
  | x :: r => uptoBulkEntry x + uptoBulkEntries r
def uptoBulkEntry {H : Type} : Lit × DataW H → Nat
  | (.string bytes, d) => bytes.length + uptoBulk d + 1
  | (_, d) => uptoBulk d + 1
 end
def uptoSmall : (H : Type) → List (DataW H) → Bool := fun _ ds => decide (uptoBulkAll ds ≤ 1048576)
def OpenSpec.upto (s : _root_.Go.ChangeSpec) : _root_.Go.OpenSpec := { _root_.Go.OpenSpec.ofChange s with cond := some uptoSmall }

/-- 'laws.FnLooks', WHERE WHAT IT READS IS OF BULK AT MOST 1048576: true; the input reads as it did. -/
def fnLooksUptoRow : OpenClaim := { program := "ytflimjgjgligeaagreat", sum := "fd3826715256748858c89ed4c0819d1ec643867a0f3ad73cebd74e878cf22f95", func := "loop.example/g00240/laws.FnLooks", spec := "fnLooks", unfollowed := true, recurses := true, apart := false, narrowed := true }
def FnLooksUptoSaid : Prop := fnLooksUptoRow.holds Tryz.pinned (OpenSpec.upto fnLooksSpec)

/-- 'laws.FnRanges', WHERE WHAT IT READS IS OF BULK AT MOST 1048576: true; the input reads as it did. -/
def fnRangesUptoRow : OpenClaim := { program := "ytflimjgjgligeaagreat", sum := "fd3826715256748858c89ed4c0819d1ec643867a0f3ad73cebd74e878cf22f95", func := "loop.example/g00240/laws.FnRanges", spec := "fnRanges", unfollowed := true, recurses := true, apart := false, narrowed := true }
def FnRangesUptoSaid : Prop := fnRangesUptoRow.holds Tryz.pinned (OpenSpec.upto fnRangesSpec)

/-- 'laws.FnOpens', WHERE WHAT IT READS IS OF BULK AT MOST 1048576: true; the input reads as it did. -/
def fnOpensUptoRow : OpenClaim := { program := "ytflimjgjgligeaagreat", sum := "fd3826715256748858c89ed4c0819d1ec643867a0f3ad73cebd74e878cf22f95", func := "loop.example/g00240/laws.FnOpens", spec := "fnOpens", unfollowed := true, recurses := true, apart := false, narrowed := true }
def FnOpensUptoSaid : Prop := fnOpensUptoRow.holds Tryz.pinned (OpenSpec.upto fnOpensSpec)

/-- 'laws.FnBuilds', WHERE WHAT IT READS IS OF BULK AT MOST 1048576: true; the input reads as it did. -/
def fnBuildsUptoRow : OpenClaim := { program := "ytflimjgjgligeaagreat", sum := "fd3826715256748858c89ed4c0819d1ec643867a0f3ad73cebd74e878cf22f95", func := "loop.example/g00240/laws.FnBuilds", spec := "fnBuilds", unfollowed := true, recurses := true, apart := false, narrowed := true }
def FnBuildsUptoSaid : Prop := fnBuildsUptoRow.holds Tryz.pinned (OpenSpec.upto fnBuildsSpec)

/-- 'laws.FnPutsNodes', WHERE WHAT IT READS IS OF BULK AT MOST 1048576: true; the input reads as it did. -/
def fnPutsNodesUptoRow : OpenClaim := { program := "ytflimjgjgligeaagreat", sum := "fd3826715256748858c89ed4c0819d1ec643867a0f3ad73cebd74e878cf22f95", func := "loop.example/g00240/laws.FnPutsNodes", spec := "fnPutsNodes", unfollowed := true, recurses := true, apart := false, narrowed := true }
def FnPutsNodesUptoSaid : Prop := fnPutsNodesUptoRow.holds Tryz.pinned (OpenSpec.upto fnPutsNodesSpec)

/-- 'laws.FnChanges', WHERE WHAT IT READS IS OF BULK AT MOST 1048576: true; the input reads as it did. -/
def fnChangesUptoRow : OpenClaim := { program := "ytflimjgjgligeaagreat", sum := "fd3826715256748858c89ed4c0819d1ec643867a0f3ad73cebd74e878cf22f95", func := "loop.example/g00240/laws.FnChanges", spec := "fnChanges", inPlace := ["slices.overlaps[string]", "slices.overlaps[int]"], unfollowed := true, recurses := true, apart := false, narrowed := true }
def FnChangesUptoSaid : Prop := fnChangesUptoRow.holds Tryz.pinned (OpenSpec.upto fnChangesSpec)

/-- 'laws.FnPutMany', WHERE WHAT IT READS IS OF BULK AT MOST 1048576: true; the input reads as it did. -/
def fnPutManyUptoRow : OpenClaim := { program := "ytflimjgjgligeaagreat", sum := "fd3826715256748858c89ed4c0819d1ec643867a0f3ad73cebd74e878cf22f95", func := "loop.example/g00240/laws.FnPutMany", spec := "fnPutMany", inPlace := ["slices.overlaps[string]", "slices.overlaps[int]"], unfollowed := true, recurses := true, apart := false, narrowed := true }
def FnPutManyUptoSaid : Prop := fnPutManyUptoRow.holds Tryz.pinned (OpenSpec.upto fnPutManySpec)

/-- 'laws.FnPuts', WHERE WHAT IT READS IS OF BULK AT MOST 1048576: true; the input reads as it did. -/
def fnPutsUptoRow : OpenClaim := { program := "ytflimjgjgligeaagreat", sum := "fd3826715256748858c89ed4c0819d1ec643867a0f3ad73cebd74e878cf22f95", func := "loop.example/g00240/laws.FnPuts", spec := "fnPuts", inPlace := ["slices.overlaps[string]", "slices.overlaps[int]"], unfollowed := true, recurses := true, apart := false, narrowed := true }
def FnPutsUptoSaid : Prop := fnPutsUptoRow.holds Tryz.pinned (OpenSpec.upto fnPutsSpec)

/-- 'laws.FnDrops', WHERE WHAT IT READS IS OF BULK AT MOST 1048576: true; the input reads as it did. -/
def fnDropsUptoRow : OpenClaim := { program := "ytflimjgjgligeaagreat", sum := "fd3826715256748858c89ed4c0819d1ec643867a0f3ad73cebd74e878cf22f95", func := "loop.example/g00240/laws.FnDrops", spec := "fnDrops", inPlace := ["slices.overlaps[int]"], unfollowed := true, recurses := true, apart := false, narrowed := true }
def FnDropsUptoSaid : Prop := fnDropsUptoRow.holds Tryz.pinned (OpenSpec.upto fnDropsSpec)

/-- 'laws.FnFull', WHERE WHAT IT READS IS OF BULK AT MOST 1048576: true; the input reads as it did. -/
def fnFullUptoRow : OpenClaim := { program := "ytflimjgjgligeaagreat", sum := "fd3826715256748858c89ed4c0819d1ec643867a0f3ad73cebd74e878cf22f95", func := "loop.example/g00240/laws.FnFull", spec := "fnFull", inPlace := ["slices.overlaps[string]", "slices.overlaps[int]"], unfollowed := true, recurses := true, apart := false, narrowed := true }
def FnFullUptoSaid : Prop := fnFullUptoRow.holds Tryz.pinned (OpenSpec.upto fnFullSpec)

/-- 'laws.FnLongLife', WHERE WHAT IT READS IS OF BULK AT MOST 1048576: true; the input reads as it did. -/
def fnLongLifeUptoRow : OpenClaim := { program := "ytflimjgjgligeaagreat", sum := "fd3826715256748858c89ed4c0819d1ec643867a0f3ad73cebd74e878cf22f95", func := "loop.example/g00240/laws.FnLongLife", spec := "fnLongLife", inPlace := ["slices.overlaps[loop.example/g00240/impl.Reader]", "slices.overlaps[string]", "slices.overlaps[int]"], unfollowed := true, recurses := true, apart := false, narrowed := true }
def FnLongLifeUptoSaid : Prop := fnLongLifeUptoRow.holds Tryz.pinned (OpenSpec.upto fnLongLifeSpec)

end Rows
end Go.Proofs.YtflimjgjgligeaaGreat
