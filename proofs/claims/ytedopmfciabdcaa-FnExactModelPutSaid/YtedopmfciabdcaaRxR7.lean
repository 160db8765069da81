/-
  The given statement holds; its only conditions are the given row's own.
-/
import Derived.Test.YtedopmfciabdcaaRxRow2
import Derived.Test.YtedopmfciabdcaaRxP10
import Derived.Test.YtedopmfciabdcaaRows
namespace Go.Proofs.Ytedopmfciabdcaa
open Go Go.Rx Go.ChangeShapes Go.WideShapes Go.ChangeAt Go.RowKit

theorem Try.own : ownKnob Try.prog.godebug = none := by kernel_rfl
theorem Try.laidOut : laidOutB Try.prog = true := by kernel_rfl

set_option maxRecDepth 100000 in
theorem modelPut_lifted (os : Os) (started : os.Started) (H : Type) (enc : TypeId × Value → H) :
    ReturnsInHanded {} Try.checked os 7 .any (Rows.fnExactModelPutSpec.pre6 enc Try.prog Try.f7 Rows.fnExactModelPutRow.domain false) (Rows.fnExactModelPutSpec.post enc Try.prog Try.f7 false true false false) := by
  refine returnsInHanded_of_change (C := Try.checked) Try.own started (by kernel_rfl) Try.func7
    (ChangeSpec.witness6 (enc := enc) (C := Try.checked) false ⟨#[], #[.slice none 0 0, .string ⟨#[]⟩, .string ⟨#[]⟩], []⟩ 8 (by kernel_rfl) (by kernel_rfl) (by kernel_rfl) (by kernel_rfl)) ?_
  intro W base args ds gs before hval0 hW hcnd _
  have hval : ∀ (j : Nat) t v, Try.f7.params[j]? = some t → args[j]? = some v → Value.okWide Try.prog W .any base t v := hval0
  have hW' := hW
  obtain ⟨p, q, hA0, hV, rfl, hfz, hnd⟩ := hW
  have hA : DataW.TrodAll enc Try.prog W 0 (fun _ => true) true Try.f7.params.toList args.toList ds p := hA0
  rw [Try.params7] at hA hval
  obtain ⟨v0, v1, v2, d0, d1, d2, p0, p1, p2, rfl, rfl, rfl, h0, h1, h2⟩ := trodAll_three hA
  obtain ⟨rfl, rfl⟩ := trodVars_none hV
  obtain ⟨l, hd, hl, hp⟩ := open_prs (f0 := _) (f1 := _) Try.underlying22 Try.underlying53 (by kernel_rfl) rfl rfl (by kernel_rfl) (by kernel_rfl) Try.underlying9 Try.underlying9 (hval 0 22 v0 rfl rfl) h0
  obtain ⟨key, hd2, hl2⟩ := open_str Try.underlying9 (hval 1 9 v1 rfl rfl) h1
  obtain ⟨val, hd3, hl3⟩ := open_str Try.underlying9 (hval 2 9 v2 rfl rfl) h2
  exact law_calls (t := 4) (xs := [.sl (prs l), .str key, .str val]) Try.laidOut (by rw [Try.params7]; intro t ht; simp at ht; rcases ht with rfl | rfl <;> exact ⟨by kernel_rfl, of_decide_eq_true (by kernel_rfl)⟩) (by kernel_rfl) Try.underlying4 rfl rfl rfl rfl hW' (c7 l key val hl hp) rfl
    (fun i x v h1 h2 => by
      match i, h1, h2 with
      | 0, h1, h2 => cases h1; cases h2; exact hd
      | 1, h1, h2 => cases h1; cases h2; exact hd2
      | 2, h1, h2 => cases h1; cases h2; exact hd3
      | i + 3, h1, _ => cases h1)

theorem fnExactModelPut_holds : Rows.FnExactModelPutSaid :=
  OpenClaim.holds_of_wide 7 Try.f7 rfl rfl rfl rfl rfl rfl rfl ⟨rfl, rfl, rfl, rfl, rfl⟩ rfl rfl rfl rfl rfl (by kernel_rfl) Try.func7 (by kernel_rfl)
    (of_decide_eq_true (by kernel_rfl)) (by unfold Func.isWrapper; first | (rw [if_pos (by decide +kernel)]; kernel_rfl) | (rw [if_neg (by decide +kernel)]; exact ⟨rfl, rfl⟩))
    (fun os started H enc _ => modelPut_lifted os started H enc)

end Go.Proofs.Ytedopmfciabdcaa
