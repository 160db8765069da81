/-
  No cell of these rows narrows 'for every input' (looked for: loops, veiled, ifaces, maps, wideKeys, modest, calm, conditions, laid).
  DERIVED. THE GIVEN ROWS OF THIS SEAT. 3 by the template 'for every input the law returns true; each argument reads behind the call as it read before'; 0 by the template 'total and deterministic' (their statements: YtnnopcjkgblcoaaGreatTotals.lean).
  GIVEN WITH THE SEED: the statements are not yours to turn. If you find one false, say at which input.
  Laid BY PROGRAM, IN A SANDBOX (cutbox-rows.mjs): the forced cells as the released guide's own fill.sh prints them over the translation 74608de6de8fcdc1… (all of the seat's roots in one cut). By AI agents, Wed Nov 11 2026. No macro, syntax, notation, axiom, sorry.
-/
import Derived.Test.YtnnopcjkgblcoaaGreatChecked
import GoSem.Claim
import GoSem.ClaimJoined
import GoSem.ClaimMapViews
import Derived.JoinedTies
import Derived.KernelRfl
namespace Go.Proofs.YtnnopcjkgblcoaaGreat
/- THE CELL 'sum', in the pinned program and in every row, IS THE sha256 OF THE DUMP (.gsa) THAT YtnnopcjkgblcoaaGreatProg.lean LOADS. Nothing in Lean hashes anything: it is a label: what it is worth is what the hold of that sum in a sandbox is worth. -/
noncomputable def Tryz.pinned : Pinned := { name := "ytnnopcjkgblcoaagreat", sum := "74608de6de8fcdc1fb99a25d263cbf94e701d3b568d9f614e67e43afd710bbd5", checked := Tryz.checked }
namespace Rows
def none {H : Type} : Left H := { results := [], args := [] }

/-- 'laws.FnPutMany': WHATEVER THE INPUT: true; the input reads as it did. -/
def fnPutManySpec : ChangeSpec := { name := "fnPutMany", fn := fun _ => fun
  | [d] => { results := [.lit (.bool true)], args := [d] }
  | _ => none }
def fnPutManyRow : OpenClaim := { program := "ytnnopcjkgblcoaagreat", sum := "74608de6de8fcdc1fb99a25d263cbf94e701d3b568d9f614e67e43afd710bbd5", func := "loop.example/g00240/laws.FnPutMany", spec := "fnPutMany", inPlace := ["slices.overlaps[string]", "slices.overlaps[int]"], unfollowed := true, recurses := true, apart := false }
def FnPutManySaid : Prop := fnPutManyRow.holds Tryz.pinned (OpenSpec.ofChange fnPutManySpec)

/-- ITS FALSE NEIGHBOUR: 'it returns false'. Refute it at one input. -/
def fnPutManyWrong : ChangeSpec := { name := "fnPutMany", fn := fun _ => fun
  | [d] => { results := [.lit (.bool false)], args := [d] }
  | _ => none }
def FnPutManyWrongFalsely : Prop := fnPutManyRow.holds Tryz.pinned (OpenSpec.ofChange fnPutManyWrong)

/-- 'laws.FnExactKept': WHATEVER THE INPUT: true; the input reads as it did. -/
def fnExactKeptSpec : ChangeSpec := { name := "fnExactKept", fn := fun _ => fun
  | [d] => { results := [.lit (.bool true)], args := [d] }
  | _ => none }
def fnExactKeptRow : OpenClaim := { program := "ytnnopcjkgblcoaagreat", sum := "74608de6de8fcdc1fb99a25d263cbf94e701d3b568d9f614e67e43afd710bbd5", func := "loop.example/g00240/laws.FnExactKept", spec := "fnExactKept", unfollowed := true, recurses := true, apart := false }
def FnExactKeptSaid : Prop := fnExactKeptRow.holds Tryz.pinned (OpenSpec.ofChange fnExactKeptSpec)

/-- ITS FALSE NEIGHBOUR: 'it returns false'. Refute it at one input. -/
def fnExactKeptWrong : ChangeSpec := { name := "fnExactKept", fn := fun _ => fun
  | [d] => { results := [.lit (.bool false)], args := [d] }
  | _ => none }
def FnExactKeptWrongFalsely : Prop := fnExactKeptRow.holds Tryz.pinned (OpenSpec.ofChange fnExactKeptWrong)

/-- 'laws.FnGives': WHATEVER THE INPUT: true; the input reads as it did. -/
def fnGivesSpec : ChangeSpec := { name := "fnGives", fn := fun _ => fun
  | [d] => { results := [.lit (.bool true)], args := [d] }
  | _ => none }
def fnGivesRow : OpenClaim := { program := "ytnnopcjkgblcoaagreat", sum := "74608de6de8fcdc1fb99a25d263cbf94e701d3b568d9f614e67e43afd710bbd5", func := "loop.example/g00240/laws.FnGives", spec := "fnGives", recurses := true, apart := false }
def FnGivesSaid : Prop := fnGivesRow.holds Tryz.pinned (OpenSpec.ofChange fnGivesSpec)

/-- ITS FALSE NEIGHBOUR: 'it returns false'. Refute it at one input. -/
def fnGivesWrong : ChangeSpec := { name := "fnGives", fn := fun _ => fun
  | [d] => { results := [.lit (.bool false)], args := [d] }
  | _ => none }
def FnGivesWrongFalsely : Prop := fnGivesRow.holds Tryz.pinned (OpenSpec.ofChange fnGivesWrong)

/- THE SECOND FORM. 'bulk': how many values and letters a reading holds, each counted each time it is reached (what is shared counts as often as it is met; a slice's spare places count too). A statement '..UptoSaid' is the law's where the arguments, and the package variables that the reading takes, are together of bulk at most 1048576: NARROWER than '..Said'. Prove '..Said' where nothing that the law and all that it calls make is longer than what came in: it says more and counts as full. Else prove '..UptoSaid'. A law counts once. -/
mutual
def uptoBulk {H : Type} : DataW H → Nat
  | .lit (.string bytes) => bytes.length + 1
  | .lit _ => 1
  | .nil => 1
  | .ptr d => uptoBulk d + 1
  | .slice elems spare => uptoBulkAll elems + uptoBulkAll spare + 1
  | .agg parts => uptoBulkAll parts + 1
  | .iface _ d => uptoBulk d + 1
  | .map entries => uptoBulkEntries entries + 1
  | .held _ => 1
def uptoBulkAll {H : Type} : List (DataW H) → Nat
  | [] => 0
  | d :: r => uptoBulk d + uptoBulkAll r
def uptoBulkEntries {H : Type} : List (Lit × DataW H) → Nat
  | [] => 0
  | x :: r => uptoBulkEntry x + uptoBulkEntries r
def uptoBulkEntry {H : Type} : Lit × DataW H → Nat
  | (.string bytes, d) => bytes.length + uptoBulk d + 1
  | (_, d) => uptoBulk d + 1
 end
def uptoSmall : (H : Type) → List (DataW H) → Bool := fun _ ds => decide (uptoBulkAll ds ≤ 1048576)
def OpenSpec.upto (s : _root_.Go.ChangeSpec) : _root_.Go.OpenSpec := { _root_.Go.OpenSpec.ofChange s with cond := some uptoSmall }

/-- 'laws.FnPutMany', WHERE WHAT IT READS IS OF BULK AT MOST 1048576: true; the input reads as it did. -/
def fnPutManyUptoRow : OpenClaim := { program := "ytnnopcjkgblcoaagreat", sum := "74608de6de8fcdc1fb99a25d263cbf94e701d3b568d9f614e67e43afd710bbd5", func := "loop.example/g00240/laws.FnPutMany", spec := "fnPutMany", inPlace := ["slices.overlaps[string]", "slices.overlaps[int]"], unfollowed := true, recurses := true, apart := false, narrowed := true }
def FnPutManyUptoSaid : Prop := fnPutManyUptoRow.holds Tryz.pinned (OpenSpec.upto fnPutManySpec)

/-- 'laws.FnExactKept', WHERE WHAT IT READS IS OF BULK AT MOST 1048576: true; the input reads as it did. -/
def fnExactKeptUptoRow : OpenClaim := { program := "ytnnopcjkgblcoaagreat", sum := "74608de6de8fcdc1fb99a25d263cbf94e701d3b568d9f614e67e43afd710bbd5", func := "loop.example/g00240/laws.FnExactKept", spec := "fnExactKept", unfollowed := true, recurses := true, apart := false, narrowed := true }
def FnExactKeptUptoSaid : Prop := fnExactKeptUptoRow.holds Tryz.pinned (OpenSpec.upto fnExactKeptSpec)

/-- 'laws.FnGives', WHERE WHAT IT READS IS OF BULK AT MOST 1048576: true; the input reads as it did. -/
def fnGivesUptoRow : OpenClaim := { program := "ytnnopcjkgblcoaagreat", sum := "74608de6de8fcdc1fb99a25d263cbf94e701d3b568d9f614e67e43afd710bbd5", func := "loop.example/g00240/laws.FnGives", spec := "fnGives", recurses := true, apart := false, narrowed := true }
def FnGivesUptoSaid : Prop := fnGivesUptoRow.holds Tryz.pinned (OpenSpec.upto fnGivesSpec)

end Rows
end Go.Proofs.YtnnopcjkgblcoaaGreat
