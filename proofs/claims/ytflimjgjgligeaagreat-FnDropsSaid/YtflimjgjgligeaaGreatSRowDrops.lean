/-
  Part RowDrops: lemmas on an evaluator over plain data of the model's code, plain laws on lists and numbers, or contracts of functions of the program; each lemma names its conditions.
-/
import Derived.Test.YtflimjgjgligeaaGreatSE1
import Derived.Test.YtflimjgjgligeaaGreatSE6
import Derived.Test.YtflimjgjgligeaaGreatSR0
import Derived.Test.YtflimjgjgligeaaGreatSV9
import Derived.Test.YtflimjgjgligeaaGreatRows

set_option linter.unusedSimpArgs false
set_option linter.unusedVariables false
set_option maxRecDepth 100000
set_option maxHeartbeats 16000000
namespace Go.Proofs.YtflimjgjgligeaaGreat
open Go Go.Rx Go.ChangeShapes Go.WideShapes Go.ChangeAt Go.RowKit
theorem ZHr (os:Os) (started:os.Started) (H:Type) (enc:TypeId×Value→H):
  ReturnsInHanded {} Tryz.checked os 11 .any (Rows.fnDropsSpec.pre6 enc Tryz.prog Tryz.f11 Rows.fnDropsRow.domain false) (Rows.fnDropsSpec.post enc Tryz.prog Tryz.f11 false true false false):=by
 refine returnsInHanded_of_change (C:=Tryz.checked) Tryz.own started (by kernel_rfl) Tryz.func11
  (ChangeSpec.witness6 (enc:=enc) (C:=Tryz.checked) false ⟨#[], #[.slice none 0 0],[]⟩ 16 (by kernel_rfl) (by kernel_rfl) (by kernel_rfl) (by kernel_rfl)) ?_
 intro W base args ds gs before hval0 hW hcnd _;have hval:∀(j:Nat) t v,Tryz.f11.params[j]? =some t→args[j]? =some v→Value.okWide Tryz.prog W .any base t v:=hval0;have hW':=hW;obtain ⟨p,q,hA0,hV,rfl,hfz,hnd⟩:=hW;have hA:DataW.TrodAll enc Tryz.prog W 0 (fun _=>true) true Tryz.f11.params.toList args.toList ds p:=hA0;rw [Tryz.params11] at hA hval;obtain ⟨v0,d0,rfl,rfl,h0⟩:=trodAll_one hA;obtain ⟨rfl,rfl⟩:=trodVars_none hV;obtain ⟨a0,hd0,ha0⟩:=opn_cell (cell:=fun l=>D.sl (bys l)) (opn_slice Tryz.underlying22 (m:=1) (by kernel_rfl) (by omega) (fun _=>rfl) (opn_byte Tryz.underlying5)) (by obtain ⟨_,_,_,rfl⟩:=WideShapes.okWide_slice Tryz.underlying22 (hval 0 22 v0 rfl rfl);rfl) h0
 exact law_calls (t:=4) (xs:=[.sl (bys a0)]) Tryz.laidOut (by rw [Tryz.params11];intro t ht;simp at ht;subst ht;exact ⟨by kernel_rfl,of_decide_eq_true (by kernel_rfl)⟩) (by kernel_rfl) Tryz.underlying4 rfl rfl rfl rfl hW' (cl_DropsA a0 ha0) rfl
  (fun i x v h1 h2=>by
   match i,h1,h2 with
   |0,h1,h2=>cases h1;cases h2;exact hd0
   |i+1,h1,_=>cases h1)
theorem ZHs:joinedFacts Tryz.prog 11 Tryz.f11 Rows.fnDropsSpec Rows.fnDropsRow=true:=
 andT (andT (andT (andT (andT (andT (andT (andT (andT (andT (andT (andT (andT (andT (andT (andT (andT (andT (andT (andT (andT (andT (andT (andT (andT (andT (andT (andT (andT (andT (andT (by as_aux_lemma=>kernel_rfl) Tryz.laidOut) Tryz.rowed) (by as_aux_lemma=>kernel_rfl)) (by as_aux_lemma=>kernel_rfl)) (by as_aux_lemma=>kernel_rfl)) Tryz.stopless) (by as_aux_lemma=>kernel_rfl)) Tryz.knobless) (by as_aux_lemma=>kernel_rfl)) (by as_aux_lemma=>kernel_rfl)) (by as_aux_lemma=>kernel_rfl)) (by as_aux_lemma=>kernel_rfl)) (by as_aux_lemma=>kernel_rfl)) (by as_aux_lemma=>kernel_rfl)) (by as_aux_lemma=>kernel_rfl)) (by as_aux_lemma=>kernel_rfl)) (by as_aux_lemma=>kernel_rfl)) (by as_aux_lemma=>kernel_rfl)) (by as_aux_lemma=>kernel_rfl)) (by as_aux_lemma=>kernel_rfl)) (by as_aux_lemma=>kernel_rfl)) (by as_aux_lemma=>kernel_rfl)) (by as_aux_lemma=>kernel_rfl)) Tryz.heard) Tryz.enters) (by as_aux_lemma=>kernel_rfl)) (by as_aux_lemma=>kernel_rfl)) (by as_aux_lemma=>kernel_rfl)) (by as_aux_lemma=>kernel_rfl)) (by as_aux_lemma=>kernel_rfl)) (by as_aux_lemma=>kernel_rfl)
theorem ZHt:Tryz.pinned.checked.prog.funcNamed Rows.fnDropsRow.func=some 11:=by kernel_rfl
theorem ZHv:Tryz.f11.isInstance Tryz.prog Rows.fnDropsRow.origin Rows.fnDropsRow.targs:=of_decide_eq_true (by kernel_rfl)
theorem ZHu:Tryz.f11.isWrapper Tryz.prog Rows.fnDropsRow.wrapper Rows.fnDropsRow.mainSum:=by unfold Func.isWrapper;first|(rw [if_pos (by decide+kernel)];kernel_rfl)|(rw [if_neg (by decide+kernel)];exact ⟨rfl,rfl⟩)
theorem fnDrops_holds:Rows.FnDropsSaid:=
 OpenClaim.holds_of_wide 11 Tryz.f11 rfl rfl rfl rfl rfl rfl rfl ⟨rfl,rfl,rfl,rfl,rfl⟩ rfl rfl rfl rfl rfl ZHt Tryz.func11 ZHs ZHv ZHu
  (fun os started H enc _=>ZHr os started H enc)
#print axioms fnDrops_holds
end Go.Proofs.YtflimjgjgligeaaGreat

