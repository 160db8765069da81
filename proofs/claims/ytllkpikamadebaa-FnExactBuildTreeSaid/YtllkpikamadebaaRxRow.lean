/-
  The given statement holds; its only conditions are the given row's own.
-/
import Derived.Test.YtllkpikamadebaaRx4
import Derived.Test.YtllkpikamadebaaRx6
import Derived.Test.YtllkpikamadebaaRows

set_option linter.unusedSimpArgs false
set_option linter.unusedVariables false

namespace Go.Proofs.Ytllkpikamadebaa
open Go Go.Rx Go.ChangeShapes Go.WideShapes Go.ChangeAt Go.RowKit

theorem Try.own : ownKnob Try.prog.godebug = none := by kernel_rfl
theorem Try.laidOut : laidOutB Try.prog = true := by kernel_rfl

set_option maxRecDepth 100000 in
theorem opn_Put133 {H : Type} {enc : TypeId × Value → H} : Opn Try.prog enc 133 GPut.cells okGPut :=
  opn_map (opn_struct Try.underlying133 (m := 2) (by kernel_rfl) (opnFs_cons rfl (c := 1) (by kernel_rfl) (opn_int Try.underlying3) (of_decide_eq_true (by kernel_rfl)) (opnFs_cons rfl (c := 1) (by kernel_rfl) (opn_str Try.underlying9) (of_decide_eq_true (by kernel_rfl)) (opnFs_nil)))) (fun x => ⟨x.1, x.2.1⟩) (fun _ => rfl) (fun x h => h.2.1)

set_option maxRecDepth 100000 in
theorem opn_Disk25 {H : Type} {enc : TypeId × Value → H} : Opn Try.prog enc 25 GDisk.cells okGDisk :=
  opn_map (opn_struct Try.underlying25 (m := 2) (by kernel_rfl) (opnFs_cons rfl (c := 1) (by kernel_rfl) (opn_slice Try.underlying22 (m := 1) (by kernel_rfl) (by omega) (fun _ => rfl) (opn_str Try.underlying9)) (of_decide_eq_true (by kernel_rfl)) (opnFs_cons rfl (c := 1) (by kernel_rfl) (opn_slice Try.underlying23 (m := 2) (by kernel_rfl) (by omega) (fun _ => rfl) (opn_Put133)) (of_decide_eq_true (by kernel_rfl)) (opnFs_nil)))) (fun x => ⟨x.1, x.2.1⟩) (fun _ => rfl) (fun x h => ⟨h.1, h.2.1⟩)

set_option maxRecDepth 100000 in
theorem opn_Work28 {H : Type} {enc : TypeId × Value → H} : Opn Try.prog enc 28 GWork.cells okGWork :=
  opn_map (opn_struct Try.underlying28 (m := 6) (by kernel_rfl) (opnFs_cons rfl (c := 2) (by kernel_rfl) (opn_Disk25) (of_decide_eq_true (by kernel_rfl)) (opnFs_cons rfl (c := 1) (by kernel_rfl) (opn_int Try.underlying3) (of_decide_eq_true (by kernel_rfl)) (opnFs_cons rfl (c := 1) (by kernel_rfl) (opn_slice Try.underlying26 (m := 1) (by kernel_rfl) (by omega) (fun _ => rfl) (opn_int Try.underlying3)) (of_decide_eq_true (by kernel_rfl)) (opnFs_cons rfl (c := 1) (by kernel_rfl) (opn_slice Try.underlying26 (m := 1) (by kernel_rfl) (by omega) (fun _ => rfl) (opn_int Try.underlying3)) (of_decide_eq_true (by kernel_rfl)) (opnFs_cons rfl (c := 1) (by kernel_rfl) (opn_slice Try.underlying26 (m := 1) (by kernel_rfl) (by omega) (fun _ => rfl) (opn_int Try.underlying3)) (of_decide_eq_true (by kernel_rfl)) (opnFs_nil))))))) (fun x => ⟨x.1, x.2.1, x.2.2.1, x.2.2.2.1, x.2.2.2.2.1⟩) (fun _ => rfl) (fun x h => ⟨h.1, h.2.2.1.1, h.2.2.2.1.1, h.2.2.2.2.1.1⟩)

set_option maxRecDepth 100000 in
theorem opn_Pair65 {H : Type} {enc : TypeId × Value → H} : Opn Try.prog enc 65 GPair.cells okGPair :=
  opn_map (opn_struct Try.underlying65 (m := 2) (by kernel_rfl) (opnFs_cons rfl (c := 1) (by kernel_rfl) (opn_str Try.underlying9) (of_decide_eq_true (by kernel_rfl)) (opnFs_cons rfl (c := 1) (by kernel_rfl) (opn_str Try.underlying9) (of_decide_eq_true (by kernel_rfl)) (opnFs_nil)))) (fun x => ⟨x.1, x.2.1⟩) (fun _ => rfl) (fun x h => ⟨h.1, h.2.1⟩)

set_option maxRecDepth 100000 in
theorem fnExactBuildTree_lifted (os : Os) (started : os.Started) (H : Type) (enc : TypeId × Value → H) :
    ReturnsInHanded {} Try.checked os 3 .any (Rows.fnExactBuildTreeSpec.pre6 enc Try.prog Try.f3 Rows.fnExactBuildTreeRow.domain false) (Rows.fnExactBuildTreeSpec.post enc Try.prog Try.f3 false true false false) := by
  refine returnsInHanded_of_change (C := Try.checked) Try.own started (by kernel_rfl) Try.func3
    (ChangeSpec.witness6 (enc := enc) (C := Try.checked) false ⟨#[], #[.agg #[.slice none 0 0, .slice none 0 0, .int .i64 0, .slice none 0 0, .slice none 0 0, .slice none 0 0], .slice none 0 0], []⟩ 16 (by kernel_rfl) (by kernel_rfl) (by kernel_rfl) (by kernel_rfl)) ?_
  intro W base args ds gs before hval0 hW hcnd _
  have hval : ∀ (j : Nat) t v, Try.f3.params[j]? = some t → args[j]? = some v → Value.okWide Try.prog W .any base t v := hval0
  have hW' := hW
  obtain ⟨p, q, hA0, hV, rfl, hfz, hnd⟩ := hW
  have hA : DataW.TrodAll enc Try.prog W 0 (fun _ => true) true Try.f3.params.toList args.toList ds p := hA0
  rw [Try.params3] at hA hval
  obtain ⟨v0, v1, d0, d1, p0, p1, rfl, rfl, rfl, h0, h1⟩ := trodAll_two hA
  obtain ⟨rfl, rfl⟩ := trodVars_none hV
  obtain ⟨a0, hd0, ha0⟩ := opn_agg Try.underlying28 (opn_Work28) (hval 0 28 v0 rfl rfl) h0
  obtain ⟨a1, hd1, ha1⟩ := opn_cell (cell := fun l => D.sl (GPairS l)) (opn_slice Try.underlying29 (m := 2) (by kernel_rfl) (by omega) (fun _ => rfl) (opn_Pair65)) (by obtain ⟨_, _, _, rfl⟩ := WideShapes.okWide_slice Try.underlying29 (hval 1 29 v1 rfl rfl); rfl) h1
  exact law_calls (t := 4) (xs := [.agg a0.cells, .sl (GPairS a1)]) Try.laidOut (by rw [Try.params3]; intro t ht; simp at ht; rcases ht with rfl | rfl <;> exact ⟨by kernel_rfl, of_decide_eq_true (by kernel_rfl)⟩) (by kernel_rfl) Try.underlying4 rfl rfl rfl rfl hW' (cl_Law a0 ha0 a1 ha1) rfl
    (fun i x v h1 h2 => by
      match i, h1, h2 with
      | 0, h1, h2 => cases h1; cases h2; exact hd0
      | 1, h1, h2 => cases h1; cases h2; exact hd1
      | i + 2, h1, _ => cases h1)

theorem fnExactBuildTree_holds : Rows.FnExactBuildTreeSaid :=
  OpenClaim.holds_of_wide 3 Try.f3 rfl rfl rfl rfl rfl rfl rfl ⟨rfl, rfl, rfl, rfl, rfl⟩ rfl rfl rfl rfl rfl (by kernel_rfl) Try.func3 (by kernel_rfl)
    (of_decide_eq_true (by kernel_rfl)) (by unfold Func.isWrapper; first | (rw [if_pos (by decide +kernel)]; kernel_rfl) | (rw [if_neg (by decide +kernel)]; exact ⟨rfl, rfl⟩))
    (fun os started H enc _ => fnExactBuildTree_lifted os started H enc)
#print axioms fnExactBuildTree_holds
end Go.Proofs.Ytllkpikamadebaa
