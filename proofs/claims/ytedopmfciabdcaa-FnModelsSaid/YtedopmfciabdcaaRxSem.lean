/-
  Equations by which the abstract evaluator is worked out, marked for the simplifier; no condition.
-/
import Derived.Test.YtedopmfciabdcaaRxTy
import Derived.Test.YtedopmfciabdcaaRxSimp
namespace Go.Rx
open Go Go.RowKit

theorem fr_region {id : Nat} {ops : Array Oper} {d : Bool} : firstRegion (.region id ops d) = id := rfl
theorem fr_seq_region {id : Nat} {ops : Array Oper} {d : Bool} {b : Code} : firstRegion (.seq (.region id ops d) b) = id := rfl
theorem fr_seq_skip {b : Code} : firstRegion (.seq .skip b) = firstRegion b := rfl
theorem fr_seq_label {l : Nat} {b : Code} : firstRegion (.seq (.label l) b) = firstRegion b := rfl
theorem fr_seq_block {i : Nat} {a b : Code} : firstRegion (.seq (.block i a) b) = firstRegion a := rfl
theorem fr_seq_loop {a b : Code} : firstRegion (.seq (.loop a) b) = firstRegion a := rfl
theorem fr_seq_seq {a b c : Code} : firstRegion (.seq (.seq a b) c) = firstRegion (.seq a b) := rfl
theorem fr_block {i : Nat} {a : Code} : firstRegion (.block i a) = firstRegion a := rfl
theorem fr_loop {a : Code} : firstRegion (.loop a) = firstRegion a := rfl
theorem toNat_cast (n : Nat) : ((n : Int)).toNat = n := rfl
theorem nat_nonneg (n : Nat) : (0 ≤ (n : Int)) = True := by simp
theorem ble_dec (m n : Nat) : Nat.ble m n = decide (m ≤ n) := by
  cases h : Nat.ble m n
  · exact (decide_eq_false fun e => by rw [Nat.ble_eq_true_of_le e] at h; cases h).symm
  · exact (decide_eq_true (Nat.le_of_ble_eq_true h)).symm
attribute [go_sem] Bool.not_true Bool.not_false Bool.not_not ble_dec toNat_cast nat_nonneg eq_self
attribute [go_sem ↓] fr_region fr_seq_region fr_seq_skip fr_seq_label fr_seq_block fr_seq_loop fr_seq_seq fr_block fr_loop

attribute [go_sem]
  seqVC.eq_1 seqVC.eq_2 drawVC.eq_1 drawVC.eq_2 prep.eq_1 cap.eq_1 ev.eq_1 ev.eq_2 ev.eq_3 ev.eq_4 eget.eq_1 eget.eq_2 uget.eq_1 uget.eq_2 hget.eq_1 hget.eq_2 
  V.cells.eq_1 V.cells.eq_2 V.cells.eq_3 V.cells.eq_4 V.cells.eq_5 V.cells.eq_6 moveVC.eq_1 moveVC.eq_2 moveNil.eq_1 moveNil.eq_2 loadVC.eq_1 loadVC.eq_2 
  loadVC.eq_3 loadVC.eq_4 boxVC.eq_1 allocVC.eq_1 onSome.eq_1 onSome.eq_2 onBox.eq_1 onBox.eq_2 onArr.eq_1 onArr.eq_2 onObj.eq_1 onObj.eq_2 onInt.eq_1 
  onInt.eq_2 faVC.eq_1 faVC.eq_2 faVC.eq_3 faVC.eq_4 fieldOff.eq_1 binVC.eq_1 binVC.eq_2 binVC.eq_3 binVC.eq_4 binVC.eq_5 binVC.eq_6 strVC.eq_1 strVC.eq_2 
  strVC.eq_3 strVC.eq_4 strVC.eq_5 strVC.eq_6 strVC.eq_7 strVC.eq_8 eqlVC.eq_1 eqlVC.eq_2 eqlVC.eq_3 intVC.eq_1 intVC.eq_2 intVC.eq_3 intVC.eq_4 intVC.eq_5 
  intVC.eq_6 intVC.eq_7 intVC.eq_8 intVC.eq_9 intVC.eq_10 intVC.eq_11 intVC.eq_12 intVC.eq_13 intVC.eq_14 intVC.eq_15 intVC.eq_16 intVC.eq_17 mkBox.eq_1 
  mkBox.eq_2 mkBox.eq_3 zeroV.eq_1 zeroV.eq_2 zeroV.eq_3 St.app.eq_1 St.app.eq_2 order.eq_1 objs.eq_1 objs.eq_2 idx.eq_1 idx.eq_2 dd.eq_1 dd.eq_2 refV.eq_1 
  refV.eq_2 refA.eq_1 refA.eq_2 refA.eq_3 refC.eq_1 refC.eq_2 refC.eq_3 refC.eq_4 refO.eq_1 renV.eq_1 renV.eq_2 renA.eq_1 renA.eq_2 renA.eq_3 renC.eq_1 
  renC.eq_2 renC.eq_3 renC.eq_4 renC.eq_5 renC.eq_6 renO.eq_1 renO.eq_2 loadOk.eq_1 sizeOfT.eq_1 isStruct.eq_1 loadC.eq_1 V.one.eq_1 V.one.eq_2 V.one.eq_3 
  V.one.eq_4 V.one.eq_5 D.one.eq_1 D.one.eq_2 D.one.eq_3 ofVal.eq_1 ofVal.eq_2 ofVal.eq_3 ofCell.eq_1 ofCell.eq_2 ofCell.eq_3 ofCell.eq_4 ofCell.eq_5 
  ofCell.eq_6 thenK.eq_1 thenK.eq_2 condVC.eq_1 condVC.eq_2 blockK.eq_1 blockK.eq_2 storeVC.eq_1 storeTo.eq_1 storeTo.eq_2 storeTo.eq_3 setAt.eq_1 lenVC.eq_1 
  lenVC.eq_2 lenVC.eq_3 lenVC.eq_4 lenVC.eq_5 isStr.eq_1 isStr.eq_2 isSl.eq_1 isSl.eq_2 builtinVC.eq_1 builtinVC.eq_2 builtinVC.eq_3 builtinVC.eq_4 
  builtinVC.eq_5 builtinVC.eq_6 builtinVC.eq_7 builtinVC.eq_8 indexVC.eq_1 indexVC.eq_2 indexVC.eq_3 elemT.eq_1 known.eq_1 unVC.eq_1 unVC.eq_2 unVC.eq_3 
  unVC.eq_4 unVC.eq_5 pickVC.eq_1 pickVC.eq_2 nilVC.eq_1 nilVC.eq_2 nilVC.eq_3 nilVC.eq_4 nilVC.eq_5 nilVC.eq_6 isShift.eq_1 isShift.eq_2 isShift.eq_3 
  appendVC.eq_1 appTo.eq_1 appTo.eq_2 appTo.eq_3 fits.eq_1 srcTy.eq_1 srcTy.eq_2 slOf.eq_1 slOf.eq_2 toD.eq_1 toD.eq_2 toD.eq_3 cD.eq_1 cD.eq_2 cD.eq_3 cD.eq_4 
  cDs.eq_1 cDs.eq_2 toP.eq_1 toP.eq_2 toPs.eq_1 toPs.eq_2 makeVC.eq_1 makeVC.eq_2 zeroD.eq_1 zeroD.eq_2 zeroD.eq_3 sliceVC.eq_1 sliceVC.eq_2 sliceVC.eq_3 
  sliceVC.eq_4 sliceVC.eq_5 bound.eq_1 bound.eq_2 bound.eq_3 convVC.eq_1 convVC.eq_2 convVC.eq_3 convVC.eq_4 convVC.eq_5 convK.eq_1 convK.eq_2 convK.eq_3 
  convK.eq_4 convK.eq_5 isU8.eq_1 isU8.eq_2 extVC.eq_1 extVC.eq_2 strIx.eq_1 strIx.eq_2 fieldVC.eq_1 V.aggc.eq_1 V.aggc.eq_2 V.aggc.eq_3 buildC.eq_1 buildC.eq_2 
  structOf.eq_1 structOf.eq_2 litVC.eq_1 litVC.eq_2 litParts.eq_1 litParts.eq_2 litPart.eq_1 litPart.eq_2 kindT.eq_1 eqT.eq_1 eqT.eq_2 eqT.eq_3 eqT.eq_4 
  eqO.eq_1 eqO.eq_2 andO.eq_1 andO.eq_2 eqFs.eq_1 eqFs.eq_2 scal.eq_1 scal.eq_2 scal.eq_3 scalL.eq_1 scalL.eq_2 scalL.eq_3 aggVC.eq_1 aggVC.eq_2 ptrVC.eq_1 
  ptrVC.eq_2 minMax.eq_1 minMax.eq_2 minMax.eq_3 guardV.eq_1 guardT.eq_1 tmpsOf.eq_1 rdN.eq_1 retK.eq_1 retK.eq_2 retK.eq_3 resK.eq_1 resK.eq_2 resK.eq_3 
  one.eq_1 one.eq_2 leaves.eq_1 outsV.eq_1 outsV.eq_2 start.eq_1 startE.eq_1 startE.eq_2 calleeVC.eq_1 calleeVC.eq_2 calleeVC.eq_3 nilOf.eq_1 nilOf.eq_2 
  nilOf.eq_3 nilOf.eq_4 ndBin.eq_1 ndBin.eq_2 ndBin.eq_3 ndBin.eq_4 onNd.eq_1 onNd.eq_2 capVC.eq_1 capVC.eq_2 capVC.eq_3 capVC.eq_4 slTy.eq_1 clearVC.eq_1 
  clearVC.eq_2 keepVC.eq_1 isIntT.eq_1 isIntT.eq_2 appZ.eq_1 appZ.eq_2 roundK.eq_1 roundK.eq_2 V.isC.eq_1 V.isC.eq_2 V.isC.eq_3 V.isC.eq_4 byteCell.eq_1 
  List.drop.eq_1 List.drop.eq_2 List.drop.eq_3 List.take.eq_1 List.take.eq_2 List.take.eq_3 
  List.map_cons List.map_nil cond_true cond_false List.reverse_cons List.reverse_nil List.nil_append List.cons_append List.append_nil
  List.zip_cons_cons List.zip_nil_left List.zip_nil_right List.flatMap_cons List.flatMap_nil Nat.reduceBEq List.contains_cons List.contains_nil Bool.or_false Bool.or_true Bool.false_or Option.map_some Option.map_none
  List.length_cons List.length_nil Nat.reduceAdd Nat.reduceSub Nat.reduceLeDiff Nat.reduceMul List.all_cons List.all_nil Bool.and_true Bool.and_self true_and and_true Nat.reduceLT Nat.lt_add_one Nat.zero_add List.getElem?_cons_zero List.getElem?_cons_succ Bool.true_or beq_self_eq_true
  decide_true decide_false or_true true_or Option.bind_some List.head?_cons Option.bind_none List.toList_toArray Option.getD_some Option.getD_none List.filterMap_cons List.filterMap_nil

end Go.Rx
