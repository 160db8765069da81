/-
  The given statement holds; its only conditions are the given row's own.
-/
import Derived.Test.YtnnopcjkgblcoaaGreatRx4
import Derived.Test.YtnnopcjkgblcoaaGreatRx5
import Derived.Test.YtnnopcjkgblcoaaGreatRows

set_option linter.unusedSimpArgs false
set_option linter.unusedVariables false

namespace Go.Proofs.YtnnopcjkgblcoaaGreat
open Go Go.Rx Go.ChangeShapes Go.WideShapes Go.ChangeAt Go.RowKit

theorem Tryz.own : ownKnob Tryz.prog.godebug = none := by kernel_rfl
theorem Tryz.laidOut : laidOutB Tryz.prog = true := by kernel_rfl

set_option maxRecDepth 100000 in
theorem opn_Pair148 {H : Type} {enc : TypeId × Value → H} : Opn Tryz.prog enc 148 GPair.cells okGPair :=
  opn_map (opn_struct Tryz.underlying148 (m := 2) (by kernel_rfl) (opnFs_cons rfl (c := 1) (by kernel_rfl) (opn_str Tryz.underlying9) (of_decide_eq_true (by kernel_rfl)) (opnFs_cons rfl (c := 1) (by kernel_rfl) (opn_str Tryz.underlying9) (of_decide_eq_true (by kernel_rfl)) (opnFs_nil)))) (fun x => ⟨x.1, x.2.1⟩) (fun _ => rfl) (fun x h => ⟨h.1, h.2.1⟩)

set_option maxRecDepth 100000 in
theorem opn_Seen151 {H : Type} {enc : TypeId × Value → H} : Opn Tryz.prog enc 151 GSeen.cells okGSeen :=
  opn_map (opn_struct Tryz.underlying151 (m := 2) (by kernel_rfl) (opnFs_cons rfl (c := 1) (by kernel_rfl) (opn_int Tryz.underlying3) (of_decide_eq_true (by kernel_rfl)) (opnFs_cons rfl (c := 1) (by kernel_rfl) (opn_slice Tryz.underlying61 (m := 2) (by kernel_rfl) (by omega) (fun _ => rfl) (opn_Pair148)) (of_decide_eq_true (by kernel_rfl)) (opnFs_nil)))) (fun x => ⟨x.1, x.2.1⟩) (fun _ => rfl) (fun x h => h.2.1)

set_option maxRecDepth 100000 in
theorem opn_Put223 {H : Type} {enc : TypeId × Value → H} : Opn Tryz.prog enc 223 GPut.cells okGPut :=
  opn_map (opn_struct Tryz.underlying223 (m := 2) (by kernel_rfl) (opnFs_cons rfl (c := 1) (by kernel_rfl) (opn_int Tryz.underlying3) (of_decide_eq_true (by kernel_rfl)) (opnFs_cons rfl (c := 1) (by kernel_rfl) (opn_str Tryz.underlying9) (of_decide_eq_true (by kernel_rfl)) (opnFs_nil)))) (fun x => ⟨x.1, x.2.1⟩) (fun _ => rfl) (fun x h => h.2.1)

set_option maxRecDepth 100000 in
theorem opn_Disk50 {H : Type} {enc : TypeId × Value → H} : Opn Tryz.prog enc 50 GDisk.cells okGDisk :=
  opn_map (opn_struct Tryz.underlying50 (m := 2) (by kernel_rfl) (opnFs_cons rfl (c := 1) (by kernel_rfl) (opn_slice Tryz.underlying26 (m := 1) (by kernel_rfl) (by omega) (fun _ => rfl) (opn_str Tryz.underlying9)) (of_decide_eq_true (by kernel_rfl)) (opnFs_cons rfl (c := 1) (by kernel_rfl) (opn_slice Tryz.underlying48 (m := 2) (by kernel_rfl) (by omega) (fun _ => rfl) (opn_Put223)) (of_decide_eq_true (by kernel_rfl)) (opnFs_nil)))) (fun x => ⟨x.1, x.2.1⟩) (fun _ => rfl) (fun x h => ⟨h.1, h.2.1⟩)

set_option maxRecDepth 100000 in
theorem opn_Work56 {H : Type} {enc : TypeId × Value → H} : Opn Tryz.prog enc 56 GWork.cells okGWork :=
  opn_map (opn_struct Tryz.underlying56 (m := 6) (by kernel_rfl) (opnFs_cons rfl (c := 2) (by kernel_rfl) (opn_Disk50) (of_decide_eq_true (by kernel_rfl)) (opnFs_cons rfl (c := 1) (by kernel_rfl) (opn_int Tryz.underlying3) (of_decide_eq_true (by kernel_rfl)) (opnFs_cons rfl (c := 1) (by kernel_rfl) (opn_slice Tryz.underlying32 (m := 1) (by kernel_rfl) (by omega) (fun _ => rfl) (opn_int Tryz.underlying3)) (of_decide_eq_true (by kernel_rfl)) (opnFs_cons rfl (c := 1) (by kernel_rfl) (opn_slice Tryz.underlying32 (m := 1) (by kernel_rfl) (by omega) (fun _ => rfl) (opn_int Tryz.underlying3)) (of_decide_eq_true (by kernel_rfl)) (opnFs_cons rfl (c := 1) (by kernel_rfl) (opn_slice Tryz.underlying32 (m := 1) (by kernel_rfl) (by omega) (fun _ => rfl) (opn_int Tryz.underlying3)) (of_decide_eq_true (by kernel_rfl)) (opnFs_nil))))))) (fun x => ⟨x.1, x.2.1, x.2.2.1, x.2.2.2.1, x.2.2.2.2.1⟩) (fun _ => rfl) (fun x h => ⟨h.1, h.2.2.1.1, h.2.2.2.1.1, h.2.2.2.2.1.1⟩)

set_option maxRecDepth 100000 in
theorem opn_Free225 {H : Type} {enc : TypeId × Value → H} : Opn Tryz.prog enc 225 GFree.cells okGFree :=
  opn_map (opn_struct Tryz.underlying225 (m := 2) (by kernel_rfl) (opnFs_cons rfl (c := 1) (by kernel_rfl) (opn_int Tryz.underlying3) (of_decide_eq_true (by kernel_rfl)) (opnFs_cons rfl (c := 1) (by kernel_rfl) (opn_slice Tryz.underlying32 (m := 1) (by kernel_rfl) (by omega) (fun _ => rfl) (opn_int Tryz.underlying3)) (of_decide_eq_true (by kernel_rfl)) (opnFs_nil)))) (fun x => ⟨x.1, x.2.1⟩) (fun _ => rfl) (fun x h => h.2.1.1)

set_option maxRecDepth 100000 in
theorem opn_Meta53 {H : Type} {enc : TypeId × Value → H} : Opn Tryz.prog enc 53 GMeta.cells okGMeta :=
  opn_map (opn_struct Tryz.underlying53 (m := 4) (by kernel_rfl) (opnFs_cons rfl (c := 1) (by kernel_rfl) (opn_int Tryz.underlying3) (of_decide_eq_true (by kernel_rfl)) (opnFs_cons rfl (c := 1) (by kernel_rfl) (opn_int Tryz.underlying3) (of_decide_eq_true (by kernel_rfl)) (opnFs_cons rfl (c := 1) (by kernel_rfl) (opn_int Tryz.underlying3) (of_decide_eq_true (by kernel_rfl)) (opnFs_cons rfl (c := 1) (by kernel_rfl) (opn_slice Tryz.underlying51 (m := 2) (by kernel_rfl) (by omega) (fun _ => rfl) (opn_Free225)) (of_decide_eq_true (by kernel_rfl)) (opnFs_nil)))))) (fun x => ⟨x.1, x.2.1, x.2.2.1, x.2.2.2.1⟩) (fun _ => rfl) (fun x h => h.2.2.2.1)

set_option maxRecDepth 100000 in
theorem opn_Txn58 {H : Type} {enc : TypeId × Value → H} : Opn Tryz.prog enc 58 GTxn.cells okGTxn :=
  opn_map (opn_struct Tryz.underlying58 (m := 11) (by kernel_rfl) (opnFs_cons rfl (c := 4) (by kernel_rfl) (opn_Meta53) (of_decide_eq_true (by kernel_rfl)) (opnFs_cons rfl (c := 6) (by kernel_rfl) (opn_Work56) (of_decide_eq_true (by kernel_rfl)) (opnFs_cons rfl (c := 1) (by kernel_rfl) (opn_int Tryz.underlying3) (of_decide_eq_true (by kernel_rfl)) (opnFs_nil))))) (fun x => ⟨x.1, x.2.1, x.2.2.1⟩) (fun _ => rfl) (fun x h => ⟨h.1, h.2.1⟩)

set_option maxRecDepth 100000 in
theorem opn_Reader187 {H : Type} {enc : TypeId × Value → H} : Opn Tryz.prog enc 187 GReader.cells okGReader :=
  opn_map (opn_struct Tryz.underlying187 (m := 5) (by kernel_rfl) (opnFs_cons rfl (c := 1) (by kernel_rfl) (opn_int Tryz.underlying3) (of_decide_eq_true (by kernel_rfl)) (opnFs_cons rfl (c := 4) (by kernel_rfl) (opn_Meta53) (of_decide_eq_true (by kernel_rfl)) (opnFs_nil)))) (fun x => ⟨x.1, x.2.1⟩) (fun _ => rfl) (fun x h => h.2.1)

set_option maxRecDepth 100000 in
theorem opn_Store60 {H : Type} {enc : TypeId × Value → H} : Opn Tryz.prog enc 60 GStore.cells okGStore :=
  opn_map (opn_struct Tryz.underlying60 (m := 20) (by kernel_rfl) (opnFs_cons rfl (c := 2) (by kernel_rfl) (opn_Disk50) (of_decide_eq_true (by kernel_rfl)) (opnFs_cons rfl (c := 4) (by kernel_rfl) (opn_Meta53) (of_decide_eq_true (by kernel_rfl)) (opnFs_cons rfl (c := 1) (by kernel_rfl) (opn_slice Tryz.underlying54 (m := 5) (by kernel_rfl) (by omega) (fun _ => rfl) (opn_Reader187)) (of_decide_eq_true (by kernel_rfl)) (opnFs_cons rfl (c := 11) (by kernel_rfl) (opn_Txn58) (of_decide_eq_true (by kernel_rfl)) (opnFs_cons rfl (c := 1) (by kernel_rfl) (opn_bool Tryz.underlying4) (of_decide_eq_true (by kernel_rfl)) (opnFs_cons rfl (c := 1) (by kernel_rfl) (opn_bool Tryz.underlying4) (of_decide_eq_true (by kernel_rfl)) (opnFs_nil)))))))) (fun x => ⟨x.1, x.2.1, x.2.2.1, x.2.2.2.1, x.2.2.2.2.1, x.2.2.2.2.2.1⟩) (fun _ => rfl) (fun x h => ⟨h.1, h.2.1, h.2.2.1, h.2.2.2.1⟩)

set_option maxRecDepth 100000 in
theorem opn_World64 {H : Type} {enc : TypeId × Value → H} : Opn Tryz.prog enc 64 GWorld.cells okGWorld :=
  opn_map (opn_struct Tryz.underlying64 (m := 25) (by kernel_rfl) (opnFs_cons rfl (c := 20) (by kernel_rfl) (opn_Store60) (of_decide_eq_true (by kernel_rfl)) (opnFs_cons rfl (c := 1) (by kernel_rfl) (opn_slice Tryz.underlying61 (m := 2) (by kernel_rfl) (by omega) (fun _ => rfl) (opn_Pair148)) (of_decide_eq_true (by kernel_rfl)) (opnFs_cons rfl (c := 1) (by kernel_rfl) (opn_slice Tryz.underlying61 (m := 2) (by kernel_rfl) (by omega) (fun _ => rfl) (opn_Pair148)) (of_decide_eq_true (by kernel_rfl)) (opnFs_cons rfl (c := 1) (by kernel_rfl) (opn_slice Tryz.underlying62 (m := 2) (by kernel_rfl) (by omega) (fun _ => rfl) (opn_Seen151)) (of_decide_eq_true (by kernel_rfl)) (opnFs_cons rfl (c := 1) (by kernel_rfl) (opn_slice Tryz.underlying32 (m := 1) (by kernel_rfl) (by omega) (fun _ => rfl) (opn_int Tryz.underlying3)) (of_decide_eq_true (by kernel_rfl)) (opnFs_cons rfl (c := 1) (by kernel_rfl) (opn_slice Tryz.underlying26 (m := 1) (by kernel_rfl) (by omega) (fun _ => rfl) (opn_str Tryz.underlying9)) (of_decide_eq_true (by kernel_rfl)) (opnFs_nil)))))))) (fun x => ⟨x.1, x.2.1, x.2.2.1, x.2.2.2.1, x.2.2.2.2.1, x.2.2.2.2.2.1⟩) (fun _ => rfl) (fun x h => ⟨h.1, h.2.1, h.2.2.1, h.2.2.2.1, h.2.2.2.2.1.1, h.2.2.2.2.2.1⟩)

set_option maxRecDepth 100000 in
theorem fnExactKept_lifted (os : Os) (started : os.Started) (H : Type) (enc : TypeId × Value → H) :
    ReturnsInHanded {} Tryz.checked os 4 .any (Rows.fnExactKeptSpec.pre6 enc Tryz.prog Tryz.f4 Rows.fnExactKeptRow.domain false) (Rows.fnExactKeptSpec.post enc Tryz.prog Tryz.f4 false true false false) := by
  refine returnsInHanded_of_change (C := Tryz.checked) Tryz.own started (by kernel_rfl) Tryz.func4
    (ChangeSpec.witness6 (enc := enc) (C := Tryz.checked) false ⟨#[], #[.agg #[.slice none 0 0, .slice none 0 0, .int .i64 0, .int .i64 0, .int .i64 0, .slice none 0 0, .slice none 0 0, .int .i64 0, .int .i64 0, .int .i64 0, .slice none 0 0, .slice none 0 0, .slice none 0 0, .int .i64 0, .slice none 0 0, .slice none 0 0, .slice none 0 0, .int .i64 0, .bool false, .bool false, .slice none 0 0, .slice none 0 0, .slice none 0 0, .slice none 0 0, .slice none 0 0]], []⟩ 16 (by kernel_rfl) (by kernel_rfl) (by kernel_rfl) (by kernel_rfl)) ?_
  intro W base args ds gs before hval0 hW hcnd _
  have hval : ∀ (j : Nat) t v, Tryz.f4.params[j]? = some t → args[j]? = some v → Value.okWide Tryz.prog W .any base t v := hval0
  have hW' := hW
  obtain ⟨p, q, hA0, hV, rfl, hfz, hnd⟩ := hW
  have hA : DataW.TrodAll enc Tryz.prog W 0 (fun _ => true) true Tryz.f4.params.toList args.toList ds p := hA0
  rw [Tryz.params4] at hA hval
  obtain ⟨v0, d0, rfl, rfl, h0⟩ := trodAll_one hA
  obtain ⟨rfl, rfl⟩ := trodVars_none hV
  obtain ⟨a0, hd0, ha0⟩ := opn_agg Tryz.underlying64 (opn_World64) (hval 0 64 v0 rfl rfl) h0
  exact law_calls (t := 4) (xs := [.agg a0.cells]) Tryz.laidOut (by rw [Tryz.params4]; intro t ht; simp at ht; subst ht; exact ⟨by kernel_rfl, of_decide_eq_true (by kernel_rfl)⟩) (by kernel_rfl) Tryz.underlying4 rfl rfl rfl rfl hW' (cl_Kept a0 ha0) rfl
    (fun i x v h1 h2 => by
      match i, h1, h2 with
      | 0, h1, h2 => cases h1; cases h2; exact hd0
      | i + 1, h1, _ => cases h1)

theorem fnExactKept_holds : Rows.FnExactKeptSaid :=
  OpenClaim.holds_of_wide 4 Tryz.f4 rfl rfl rfl rfl rfl rfl rfl ⟨rfl, rfl, rfl, rfl, rfl⟩ rfl rfl rfl rfl rfl (by kernel_rfl) Tryz.func4 (by kernel_rfl)
    (of_decide_eq_true (by kernel_rfl)) (by unfold Func.isWrapper; first | (rw [if_pos (by decide +kernel)]; kernel_rfl) | (rw [if_neg (by decide +kernel)]; exact ⟨rfl, rfl⟩))
    (fun os started H enc _ => fnExactKept_lifted os started H enc)
#print axioms fnExactKept_holds
end Go.Proofs.YtnnopcjkgblcoaaGreat
