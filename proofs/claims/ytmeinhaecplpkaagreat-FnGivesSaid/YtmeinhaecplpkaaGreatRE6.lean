/-
  Part E6: lemmas on an evaluator over plain data of the model's code, plain laws on lists and numbers, or contracts of functions of the program; each lemma names its conditions.
-/
import Derived.Test.YtmeinhaecplpkaaGreatRE5
import Derived.Test.YtmeinhaecplpkaaGreatRE1
import Derived.ProofKit
import Derived.Deep.SlicePairs

set_option linter.unusedSimpArgs false
set_option linter.unusedVariables false
namespace Go.Rx
open Go Go.RowKit
theorem fr_region {id:Nat} {ops:Array Oper} {d:Bool}:firstRegion (.region id ops d)=id:=rfl
theorem fr_seq_region {id:Nat} {ops:Array Oper} {d:Bool} {b:Code}:firstRegion (.seq (.region id ops d) b)=id:=rfl
theorem fr_seq_skip {b:Code}:firstRegion (.seq .skip b)=firstRegion b:=rfl
theorem fr_seq_label {l:Nat} {b:Code}:firstRegion (.seq (.label l) b)=firstRegion b:=rfl
theorem fr_seq_block {i:Nat} {a b:Code}:firstRegion (.seq (.block i a) b)=firstRegion a:=rfl
theorem fr_seq_loop {a b:Code}:firstRegion (.seq (.loop a) b)=firstRegion a:=rfl
theorem fr_seq_seq {a b c:Code}:firstRegion (.seq (.seq a b) c)=firstRegion (.seq a b):=rfl
theorem fr_block {i:Nat} {a:Code}:firstRegion (.block i a)=firstRegion a:=rfl
theorem fr_loop {a:Code}:firstRegion (.loop a)=firstRegion a:=rfl
theorem toNat_cast (n:Nat):((n:Int)).toNat=n:=rfl
theorem nat_nonneg (n:Nat):(0≤(n:Int))=True:=by simp
def boxC1 (tb k:Nat):V→List Z→V
 | .nils,.nils _::_=> .own (tb+1+k) 0 0
 |v,_=>v
def boxU1 (tb k:Nat):V→List Z→Upd→Upd
 | .nils,.nils m::_,r=>(tb+1+k,some (.arr m []))::r
 |_,_,r=>r
def mkBoxC (tb:Nat):Nat→List V→List Z→List V
 |_,[],_=> []
 |k,v::vs,zs=>boxC1 tb k v zs::mkBoxC tb (k+1) vs (zs.drop 1)
def mkBoxU (tb:Nat):Nat→List V→List Z→Upd
 |_,[],_=> []
 |k,v::vs,zs=>boxU1 tb k v zs (mkBoxU tb (k+1) vs (zs.drop 1))
theorem mkBox_eq (tb:Nat):∀(vs:List V) (k:Nat) (zs:List Z),mkBox tb k vs zs=(mkBoxC tb k vs zs,mkBoxU tb k vs zs)
 |[],_,_=>rfl
 |v::vs,k,zs=>by
  simp only [mkBox,mkBoxC,mkBoxU,mkBox_eq tb vs (k+1) (zs.drop 1)]
  cases v<;>first|rfl|(cases zs with
   |nil=>rfl
   |cons z zs=>cases z<;>rfl)
theorem mkBox_1 {tb k:Nat} {vs:List V} {zs:List Z}:(mkBox tb k vs zs).1=mkBoxC tb k vs zs:=by rw [mkBox_eq]
theorem mkBox_2 {tb k:Nat} {vs:List V} {zs:List Z}:(mkBox tb k vs zs).2=mkBoxU tb k vs zs:=by rw [mkBox_eq]
attribute [go_sem ↓] mkBox_1 mkBox_2
theorem boxC1_d {tb k:Nat} {x:D} {zs:List Z}:boxC1 tb k (.d x) zs= .d x:=rfl
theorem boxC1_own {tb k n o l:Nat} {zs:List Z}:boxC1 tb k (.own n o l) zs= .own n o l:=rfl
theorem boxC1_ref {tb k n o:Nat} {zs:List Z}:boxC1 tb k (.ref n o) zs= .ref n o:=rfl
theorem boxC1_el {tb k n i j:Nat} {zs:List Z}:boxC1 tb k (.el n i j) zs= .el n i j:=rfl
theorem boxC1_nils {tb k m:Nat} {zs:List Z}:boxC1 tb k .nils (.nils m::zs)= .own (tb+1+k) 0 0:=rfl
theorem boxU1_d {tb k:Nat} {x:D} {zs:List Z} {r:Upd}:boxU1 tb k (.d x) zs r=r:=rfl
theorem boxU1_own {tb k n o l:Nat} {zs:List Z} {r:Upd}:boxU1 tb k (.own n o l) zs r=r:=rfl
theorem boxU1_ref {tb k n o:Nat} {zs:List Z} {r:Upd}:boxU1 tb k (.ref n o) zs r=r:=rfl
theorem boxU1_el {tb k n i j:Nat} {zs:List Z} {r:Upd}:boxU1 tb k (.el n i j) zs r=r:=rfl
theorem boxU1_nils {tb k m:Nat} {zs:List Z} {r:Upd}:boxU1 tb k .nils (.nils m::zs) r=(tb+1+k,some (.arr m []))::r:=rfl
attribute [go_sem] boxC1_d boxC1_own boxC1_ref boxC1_el boxC1_nils boxU1_d boxU1_own boxU1_ref boxU1_el boxU1_nils mkBoxC.eq_1 mkBoxC.eq_2 mkBoxU.eq_1 mkBoxU.eq_2
theorem ble_dec (m n:Nat):Nat.ble m n=decide (m≤n):=by
 cases h:Nat.ble m n
 ·exact (decide_eq_false fun e=>by rw [Nat.ble_eq_true_of_le e] at h;cases h).symm
 ·exact (decide_eq_true (Nat.le_of_ble_eq_true h)).symm
attribute [go_sem] Bool.not_true Bool.not_false Bool.not_not ble_dec toNat_cast nat_nonneg eq_self
attribute [go_sem ↓] fr_region fr_seq_region fr_seq_skip fr_seq_label fr_seq_block fr_seq_loop fr_seq_seq fr_block fr_loop
attribute [go_sem] seqVC.eq_1 seqVC.eq_2 drawVC.eq_1 drawVC.eq_2 prep.eq_1 cap.eq_1 ev.eq_1 ev.eq_2 ev.eq_3 ev.eq_4 eget.eq_1 eget.eq_2 uget.eq_1 uget.eq_2 hget.eq_1 hget.eq_2 V.cells.eq_1 V.cells.eq_2 V.cells.eq_3 V.cells.eq_4 V.cells.eq_5 V.cells.eq_6 moveVC.eq_1 moveVC.eq_2 moveNil.eq_1 moveNil.eq_2 loadVC.eq_1 loadVC.eq_2 loadVC.eq_3 loadVC.eq_4 boxVC.eq_1 allocVC.eq_1 onSome.eq_1 onSome.eq_2 onBox.eq_1 onBox.eq_2 onArr.eq_1 onArr.eq_2 onObj.eq_1 onObj.eq_2 onInt.eq_1 onInt.eq_2 faVC.eq_1 faVC.eq_2 faVC.eq_3 faVC.eq_4 fieldOff.eq_1 binVC.eq_1 binVC.eq_2 binVC.eq_3 binVC.eq_4 binVC.eq_5 binVC.eq_6 strVC.eq_1 strVC.eq_2 strVC.eq_3 strVC.eq_4 strVC.eq_5 strVC.eq_6 strVC.eq_7 strVC.eq_8 eqlVC.eq_1 eqlVC.eq_2 eqlVC.eq_3 intVC.eq_1 intVC.eq_2 intVC.eq_3 intVC.eq_4 intVC.eq_5 intVC.eq_6 intVC.eq_7 intVC.eq_8 intVC.eq_9 intVC.eq_10 intVC.eq_11 intVC.eq_12 intVC.eq_13 intVC.eq_14 intVC.eq_15 intVC.eq_16 intVC.eq_17 zeroV.eq_1 zeroV.eq_2 zeroV.eq_3 St.app.eq_1 St.app.eq_2 order.eq_1 objs.eq_1 objs.eq_2 idx.eq_1 idx.eq_2 dd.eq_1 dd.eq_2 refV.eq_1 refV.eq_2 refA.eq_1 refA.eq_2 refA.eq_3 refC.eq_1 refC.eq_2 refC.eq_3 refC.eq_4 refO.eq_1 renV.eq_1 renV.eq_2 renA.eq_1 renA.eq_2 renA.eq_3 renC.eq_1 renC.eq_2 renC.eq_3 renC.eq_4 renC.eq_5 renC.eq_6 renO.eq_1 renO.eq_2 loadOk.eq_1 sizeOfT.eq_1 isStruct.eq_1 loadC.eq_1 V.one.eq_1 V.one.eq_2 V.one.eq_3 V.one.eq_4 V.one.eq_5 D.one.eq_1 D.one.eq_2 D.one.eq_3 ofVal.eq_1 ofVal.eq_2 ofVal.eq_3 ofCell.eq_1 ofCell.eq_2 ofCell.eq_3 ofCell.eq_4 ofCell.eq_5 ofCell.eq_6 thenK.eq_1 thenK.eq_2 condVC.eq_1 condVC.eq_2 blockK.eq_1 blockK.eq_2 storeVC.eq_1 storeTo.eq_1 storeTo.eq_2 storeTo.eq_3 setAt.eq_1 lenVC.eq_1 lenVC.eq_2 lenVC.eq_3 lenVC.eq_4 lenVC.eq_5 isStr.eq_1 isStr.eq_2 isSl.eq_1 isSl.eq_2 builtinVC.eq_1 builtinVC.eq_2 builtinVC.eq_3 builtinVC.eq_4 builtinVC.eq_5 builtinVC.eq_6 builtinVC.eq_7 builtinVC.eq_8 indexVC.eq_1 indexVC.eq_2 indexVC.eq_3 elemT.eq_1 known.eq_1 unVC.eq_1 unVC.eq_2 unVC.eq_3 unVC.eq_4 unVC.eq_5 pickVC.eq_1 pickVC.eq_2 nilVC.eq_1 nilVC.eq_2 nilVC.eq_3 nilVC.eq_4 nilVC.eq_5 nilVC.eq_6 isShift.eq_1 isShift.eq_2 isShift.eq_3 appendVC.eq_1 appTo.eq_1 appTo.eq_2 appTo.eq_3 fits.eq_1 srcTy.eq_1 srcTy.eq_2 slOf.eq_1 slOf.eq_2 toD.eq_1 toD.eq_2 toD.eq_3 cD.eq_1 cD.eq_2 cD.eq_3 cD.eq_4 cDs.eq_1 cDs.eq_2 toP.eq_1 toP.eq_2 toPs.eq_1 toPs.eq_2 makeVC.eq_1 makeVC.eq_2 zeroD.eq_1 zeroD.eq_2 zeroD.eq_3 sliceVC.eq_1 sliceVC.eq_2 sliceVC.eq_3 sliceVC.eq_4 sliceVC.eq_5 bound.eq_1 bound.eq_2 bound.eq_3 convVC.eq_1 convVC.eq_2 convVC.eq_3 convVC.eq_4 convVC.eq_5 convK.eq_1 convK.eq_2 convK.eq_3 convK.eq_4 convK.eq_5 isU8.eq_1 isU8.eq_2 extVC.eq_1 extVC.eq_2 strIx.eq_1 strIx.eq_2 fieldVC.eq_1 V.aggc.eq_1 V.aggc.eq_2 V.aggc.eq_3 buildC.eq_1 buildC.eq_2 structOf.eq_1 structOf.eq_2 litVC.eq_1 litVC.eq_2 litParts.eq_1 litParts.eq_2 litPart.eq_1 litPart.eq_2 kindT.eq_1 eqT.eq_1 eqT.eq_2 eqT.eq_3 eqT.eq_4 eqO.eq_1 eqO.eq_2 andO.eq_1 andO.eq_2 eqFs.eq_1 eqFs.eq_2 scal.eq_1 scal.eq_2 scal.eq_3 scalL.eq_1 scalL.eq_2 scalL.eq_3 aggVC.eq_1 aggVC.eq_2 ptrVC.eq_1 ptrVC.eq_2 minMax.eq_1 minMax.eq_2 minMax.eq_3 guardV.eq_1 guardT.eq_1 tmpsOf.eq_1 rdN.eq_1 retK.eq_1 retK.eq_2 retK.eq_3 resK.eq_1 resK.eq_2 resK.eq_3 one.eq_1 one.eq_2 leaves.eq_1 outsV.eq_1 outsV.eq_2 start.eq_1 startE.eq_1 startE.eq_2 calleeVC.eq_1 calleeVC.eq_2 calleeVC.eq_3 nilOf.eq_1 nilOf.eq_2 nilOf.eq_3 nilOf.eq_4 ndBin.eq_1 ndBin.eq_2 ndBin.eq_3 ndBin.eq_4 onNd.eq_1 onNd.eq_2 capVC.eq_1 capVC.eq_2 capVC.eq_3 capVC.eq_4 slTy.eq_1 clearVC.eq_1 clearVC.eq_2 keepVC.eq_1 isIntT.eq_1 isIntT.eq_2 appZ.eq_1 appZ.eq_2 roundK.eq_1 roundK.eq_2 V.isC.eq_1 V.isC.eq_2 V.isC.eq_3 V.isC.eq_4 byteCell.eq_1 List.drop.eq_1 List.drop.eq_2 List.drop.eq_3 List.take.eq_1 List.take.eq_2 List.take.eq_3 List.map_cons List.map_nil cond_true cond_false List.reverse_cons List.reverse_nil List.nil_append List.cons_append List.append_nil List.zip_cons_cons List.zip_nil_left List.zip_nil_right List.flatMap_cons List.flatMap_nil Nat.reduceBEq List.contains_cons List.contains_nil Bool.or_false Bool.or_true Bool.false_or Option.map_some Option.map_none List.length_cons List.length_nil Nat.reduceAdd Nat.reduceSub Nat.reduceLeDiff Nat.reduceMul List.all_cons List.all_nil Bool.and_true Bool.and_self true_and and_true Nat.reduceLT Nat.lt_add_one Nat.zero_add List.getElem?_cons_zero List.getElem?_cons_succ Bool.true_or beq_self_eq_true decide_true decide_false or_true true_or Option.bind_some List.head?_cons Option.bind_none List.toList_toArray Option.getD_some Option.getD_none List.filterMap_cons List.filterMap_nil
end Go.Rx
namespace Go.Rx
open Go Go.RowKit
@[simp] theorem flatA_nil {vs:List V}:flatA [] vs=vs:=rfl
@[simp] theorem grpA_nil {vs fl:List V}:grpA [] vs fl=fl:=rfl
def toDs (h:Heap):List V→Option (List D×List Nat)
 |[]=>some ([],[])
 |v::vs=>match toD h v,toDs h vs with
  |some (x,l),some (xs,ls)=>some (x::xs,l++ls)
  |_,_=>none
theorem gather_of_toDs {h:Heap}:∀ {vs:List V} {xs:List D} {ls:List Nat},toDs h vs=some (xs,ls)→gather h [] vs=some (xs.map Arg.dat,[],ls)
 |[],xs,ls,e=>by simp [toDs] at e;obtain ⟨rfl,rfl⟩:=e;rfl
 |v::vs,xs,ls,e=>by
  simp only [toDs] at e
  split at e
  ·rename_i x l xs' ls' h1 h2
   simp at e;obtain ⟨rfl,rfl⟩:=e
   have ih:=gather_of_toDs h2
   have hd:gatherD h v (xs'.map Arg.dat) [] ls'=some (.dat x::xs'.map Arg.dat,[],l++ls'):=by unfold gatherD;rw [h1]
   simp only [gather,List.drop_nil,ih,List.headD_nil,List.map_cons]
   cases v with
   |ref n off=>simp [toD,cD] at h1
   |_=>exact hd
  ·cases e
theorem names_dat:∀xs:List D,(xs.map Arg.dat).filterMap Arg.name? =[]
 |[]=>rfl
 |x::xs=>by simp only [List.map_cons,List.filterMap_cons,Arg.name?];exact names_dat xs
theorem ownFit_dat {h:Heap} {H':List (Nat×AObj)}:∀xs:List D,ownFit h H' (xs.map Arg.dat) (xs.map fun _=>V.dead)
 |[]=>trivial
 |x::xs=>ownFit_dat xs
theorem outsFit_dat {H':List (Nat×AObj)}:∀xs:List D,outsFit H' (xs.map Arg.dat) (xs.map fun _=>V.dead)=true
 |[]=>rfl
 |x::xs=>by simp only [List.map_cons,outsFit];exact outsFit_dat xs
theorem backTo_dat:∀(xs:List D) (j:Nat),backTo (xs.map Arg.dat) (xs.map fun _=>V.dead) j=none
 |[],j=>rfl
 |x::xs,j=>by simp only [List.map_cons,backTo];exact backTo_dat xs j
def bk (tb:Nat) (H':List (Nat×AObj)) (j:Nat):Option Nat:=bif hasKey H' j then some (tb+j) else none
theorem back_dat {tb:Nat} {H':List (Nat×AObj)} (xs:List D):back tb (xs.map Arg.dat) (xs.map fun _=>V.dead) H'=bk tb H':=by
 funext j;unfold back bk;rw [backTo_dat];cases hasKey H' j<;>rfl
def updN (tb:Nat) (H0:List (Nat×AObj)):List (Nat×AObj)→Upd
 |[]=> []
 |p::l=>((bk tb H0 p.1).getD 0,some (renO (bk tb H0) p.2))::updN tb H0 l
theorem updN_eq {tb:Nat} {H0:List (Nat×AObj)}:∀H:List (Nat×AObj),H.map (fun p=>((bk tb H0 p.1).getD 0,some (renO (bk tb H0) p.2)))=updN tb H0 H
 |[]=>rfl
 |p::l=>by simp only [List.map_cons,updN,updN_eq l]
section
variable {P:Program} {h:Heap} {tb:Nat} {f:FuncId} {args:List V} {K:OK} {xs:List D} {ls:List Nat} {res:V} {H':List (Nat×AObj)}
theorem call_free (hg:toDs h args=some (xs,ls)) (hc:CallOK P f (xs.map .d) [] (xs.map fun _=> .dead) res H') (hs:smallKeys H'=true)
  (hf:ls=[]∨(FlatV res∧FlatH H')) (hk:K (renV (bk tb H') res) (updN tb H' H')):callVC P h tb f args K:=by
 refine ⟨[],[],xs.map .dat,[],ls,xs.map fun _=> .dead,res,H',gather_of_toDs hg,by rw [names_dat];simp [nodup],?_,?_,ownFit_dat xs,.inl ⟨hf,?_⟩⟩
 ·simpa [argV,objs,List.map_map,Function.comp_def] using hc
 ·rw [outsFit_dat,hs];rfl
 ·rw [back_dat,updOf,back_dat,updN_eq];simpa using hk
theorem call_take (hg:toDs h args=some (xs,ls)) (hc:CallOK P f (xs.map .d) [] (xs.map fun _=> .dead) res H') (hs:smallKeys H'=true)
  (hk:K (renV (bk tb H') res) (ls.map (·,none)++updN tb H' H')):callVC P h tb f args K:=by
 refine ⟨[],[],xs.map .dat,[],ls,xs.map fun _=> .dead,res,H',gather_of_toDs hg,by rw [names_dat];simp [nodup],?_,?_,ownFit_dat xs,.inr ?_⟩
 ·simpa [argV,objs,List.map_map,Function.comp_def] using hc
 ·rw [outsFit_dat,hs];rfl
 ·rw [back_dat,updOf,back_dat,updN_eq];simpa using hk
def bx (n tb:Nat) (H':List (Nat×AObj)) (j:Nat):Option Nat:=bif 0==j then some n else bk tb H' j
def updX (n tb:Nat) (H0:List (Nat×AObj)):List (Nat×AObj)→Upd
 |[]=> []
 |p::l=>((bx n tb H0 p.1).getD 0,some (renO (bx n tb H0) p.2))::updX n tb H0 l
theorem updX_eq {n tb:Nat} {H0:List (Nat×AObj)}:∀H:List (Nat×AObj),H.map (fun p=>((bx n tb H0 p.1).getD 0,some (renO (bx n tb H0) p.2)))=updX n tb H0 H
 |[]=>rfl
 |p::l=>by simp only [List.map_cons,updX,updX_eq l]
theorem call_box_ (gone:Bool) {n:Nat} {cells:List V} {rest:List V} (hn:h n=some (.box cells)) (hro:refO h n=[n]) (hro2:renO (idx [n]) (.box cells)= .box cells) (hr:toDs h rest=some (xs,ls)) (hnl:ls.contains n=false)
  (hc:CallOK P f (.ref 0 0::xs.map .d) [(0,.box cells)] (.ref 0 0::xs.map fun _=> .dead) res H') (hb:isBox (hget H' 0)=true) (hs:smallKeys H'=true)
  (hf:gone=true∨ls=[]∨(FlatV res∧FlatH H')) (hk:K (renV (bx n tb H') res) ((bif gone then ls.map (·,none) else [])++(n,none)::updX n tb H' H')):callVC P h tb f (.ref n 0::rest) K:=by
 have hidx:idx [n] n=some 0:=by simp [idx]
 have hbk:back tb (.box n::xs.map Arg.dat) (.ref 0 0::xs.map fun _=>V.dead) H'=bx n tb H':=by
  funext j
  unfold back bx
  simp only [backTo]
  cases h0:(0:Nat)==j with
  |true=>cases hasKey H' j<;>rfl
  |false=>simp only [cond_false];rw [backTo_dat];unfold bk;cases hasKey H' j<;>rfl
 have hu:∀l,updOf tb (.box n::xs.map Arg.dat) (.ref 0 0::xs.map fun _=>V.dead) l H'=l.map (·,none)++updX n tb H' H':=fun l=>by rw [updOf,hbk,updX_eq]
 have hgat:gather h [] (.ref n 0::rest)=some (.box n::xs.map .dat,[n],ls):=by
  simp only [gather,List.drop_nil,gather_of_toDs hr,List.headD_nil,gather1,hn,hro]
  rfl
 have hcall:CallOK P f ((Arg.box n::xs.map .dat).map (argV [n])) (objs h (idx [n]) 0 [n]) (.ref 0 0::xs.map fun _=> .dead) res H':=by
  have e1:(xs.map Arg.dat).map (argV [n])=xs.map .d:=by rw [List.map_map];rfl
  simp only [List.map_cons,e1,argV,renC,hidx,objs,hn,hro2]
  exact hc
 refine ⟨[],[],_,_,_,.ref 0 0::xs.map fun _=> .dead,res,H',hgat,?_,hcall,?_,ownFit_dat xs,?_⟩
 ·simp only [List.filterMap_cons,Arg.name?,names_dat,nodup,List.all_cons,List.all_nil,hnl]
  simp
 ·simp only [outsFit,outsFit_dat,hs,hb];rfl
 ·cases gone with
  |true=>exact .inr (by rw [hbk,hu];simpa using hk)
  |false=>
   refine .inl ⟨hf.resolve_left (by simp),?_⟩
   rw [hbk,hu];simpa using hk
end
def freezeV (h:Heap):V→Option (V×List Nat)
 | .tup vs=>match toDs h vs with
  |some (xs,ls)=>some (.tup (xs.map .d),ls)
  |none=>none
 |v=>match toD h v with
  |some (x,ls)=>some (.d x,ls)
  |none=>none
section
variable {w:World} {ok:Nat→Prop} {lam:Nat→Option Nat} {h:Heap}
theorem toDs_sound (hk:HOK w ok lam h):∀ {vs:List V} {ws:List Value} {xs:List D} {ls:List Nat},Rel2 (VRel w ok lam h) vs ws→toDs h vs=some (xs,ls)→Rel2 (DRel w (okB ok lam h ls)) xs ws
 |[],ws,xs,ls,hr,e=>by
  simp [toDs] at e;obtain ⟨rfl,rfl⟩:=e
  rw [hr.nil_left];exact Rel2.nil _
 |v::vs,ws,xs,ls,hr,e=>by
  obtain ⟨x,m,rfl,hv,hm⟩:=hr.uncons
  simp only [toDs] at e
  split at e
  ·rename_i y l ys ls' h1 h2
   simp at e;obtain ⟨rfl,rfl⟩:=e
   exact Rel2.cons (DRel.mono (toD_sound hk hv h1) (fun _ _=>rfl) fun b hb=>okB_mono hb (by simp;intro n hn;exact .inl hn))
    ((toDs_sound hk hm h2).mono fun _ _ _ hd=>DRel.mono hd (fun _ _=>rfl) fun b hb=>okB_mono hb (by simp;intro n hn;exact .inr hn))
  ·cases e
theorem freezeV_sound (hk:HOK w ok lam h) {v v':V} {x:Value} {ls:List Nat} (hv:VRel w ok lam h v x) (hf:freezeV h v=some (v',ls)) {lam':Nat→Option Nat} {h':Heap}:VRel w (okB ok lam h ls) lam' h' v' x:=by
 have dat:∀v,VRel w ok lam h v x→(match toD h v with|some (x,ls)=>some (V.d x,ls)|none=>none)=some (v',ls)→VRel w (okB ok lam h ls) lam' h' v' x:=fun v hv hf=>by
  split at hf
  ·rename_i y l hd
   simp at hf;obtain ⟨rfl,rfl⟩:=hf
   exact .d (toD_sound hk hv hd)
  ·cases hf
 cases v with
 |tup vs=>
  simp only [freezeV] at hf
  split at hf
  ·rename_i xs l hd
   simp at hf;obtain ⟨rfl,rfl⟩:=hf
   obtain ⟨cs,rfl,hr⟩:=hv.inv_tup
   have:=toDs_sound hk hr hd
   refine VRel.mkTup (Rel2.map V.d this fun y z _ hd=> .d hd)
  ·cases hf
 |_=>exact dat _ hv hf
end
theorem freeze {P:Program} {f:FuncId} {args:List V} {H:List (Nat×AObj)} {outs:List V} {res res':V} {H':List (Nat×AObj)} {ls:List Nat}
  (hc:CallOK P f args H outs res H') (hf:freezeV (hget H') res=some (res',ls)) (ho:(outs.all fun x=>match x with| .dead=>true|_=>false)=true):CallOK P f args H outs res' []:=by
 refine ⟨hc.1,fun w vs lam ok hk hl hv=>(hc.2 w vs lam ok hk hl hv).mono ?_⟩
 rintro e w' ⟨v,lam',ok',rfl,hfr,hk',hres,_,hsub,hown⟩
 refine ⟨v,lam',okB ok' lam' (hget H') ls,rfl,hfr,⟨fun n n' b h=>absurd rfl h,fun n b h=>absurd rfl h,fun n b h=>absurd rfl h,fun b hb=>?_,fun n o h=>by cases h⟩,freezeV_sound hk' hres hf,fun i x v hx _=>?_,fun b hb=>?_,fun n b h=>absurd rfl h⟩
 ·rcases hb with hb|⟨n,_,h1,h2⟩
  ·exact hk'.oklt b hb
  ·exact hk'.lt n b h1 h2
 ·have:=List.all_eq_true.1 ho x (List.mem_of_getElem? hx)
  cases x<;>first|exact .dead|simp at this
 ·rcases hb with hb|⟨n,_,h1,h2⟩
  ·exact hsub b hb
  ·rcases hown n b h1 h2 with h|h
   ·exact .inr (.inl h)
   ·exact .inr (.inr h)
theorem freeze_own {P:Program} {f:FuncId} {args:List V} {H:List (Nat×AObj)} {outs:List V} {m n:Nat} {xs:List (List D)} (hc:CallOK P f args H outs (.own 0 0 n) [(0,.arr m xs)]) (hn:n=xs.length) (ho:(outs.all fun x=>match x with| .dead=>true|_=>false)=true):
  CallOK P f args H outs (.d (.sl xs)) []:=freeze (ls:=[0]) hc (by subst hn;simp [freezeV,toD,cD,hget]) ho
theorem flatH_nil:FlatH []:=fun p hp=>by cases hp
theorem flatH_cons {n:Nat} {o:AObj} {H:List (Nat×AObj)} (h1:FlatO o) (h2:FlatH H):FlatH ((n,o)::H):=fun p hp=>by
 rcases List.mem_cons.1 hp with rfl|hp
 ·exact h1
 ·exact h2 p hp
theorem commP_of {n:Nat} {all:List Oper} {fs:List Foot} (h:commOK all fs=true):commP n all fs:=h
theorem wrap64 (n:Int):IntKind.i64.wrap n=(n+9223372036854775808)%18446744073709551616 - 9223372036854775808:=by
 simp [IntKind.wrap,IntKind.bits,IntKind.signed]
 split<;>omega
theorem wrap_int {n:Int} (h1: -9223372036854775808≤n) (h2:n<9223372036854775808):IntKind.i64.wrap n=n:=by
 rw [wrap64];omega
theorem wrap_succ {i:Nat} (h:i<LEN):IntKind.i64.wrap ((i:Int)+1)=((i+1:Nat):Int):=by
 rw [wrap_int]<;>simp only [LEN] at h<;>omega
@[congr] theorem cond_lazy {α:Type} {c c':Bool} {a b:α} (h:c=c'):cond c a b=cond c' a b:=by rw [h]
end Go.Rx
namespace Go.Rx
open Go
def flatD0:D→Bool
 | .int _ _| .bool _| .str _| .sl []| .nilp| .und=>true
 |_=>false
def flatDB:D→Bool
 | .agg cs=>cs.all flatD0
 |x=>flatD0 x
def flatV0:V→Bool
 | .d x=>flatDB x
 | .ref _ _| .el _ _ _| .own _ _ _| .nils| .dead=>true
 |_=>false
def flatV1:V→Bool
 | .agg vs=>vs.all flatV0
 |v=>flatV0 v
def flatVB:V→Bool
 | .tup vs=>vs.all flatV1
 |v=>flatV1 v
theorem flatD0_of {x:D} (h:flatD0 x=true):Flat x:=by
 unfold flatD0 at h
 split at h<;>first|exact .int _ _|exact .bool _|exact .str _|exact .nil|exact .nilp|exact .und|cases h
theorem flatDB_of {x:D} (h:flatDB x=true):Flat x:=by
 unfold flatDB at h
 split at h
 ·exact .agg fun d hd=>flatD0_of (List.all_eq_true.1 h d hd)
 ·exact flatD0_of h
theorem flatV0_of {v:V} (h:flatV0 v=true):FlatV v:=by
 unfold flatV0 at h
 split at h<;>first|exact .d (flatDB_of h)|exact .ref _ _|exact .el _ _ _|exact .own _ _ _|exact .nils|exact .dead|cases h
theorem flatV1_of {v:V} (h:flatV1 v=true):FlatV v:=by
 unfold flatV1 at h
 split at h
 ·exact .agg fun d hd=>flatV0_of (List.all_eq_true.1 h d hd)
 ·exact flatV0_of h
theorem flat_of {v:V} (h:flatVB v=true):FlatV v:=by
 unfold flatVB at h
 split at h
 ·exact .tup fun d hd=>flatV1_of (List.all_eq_true.1 h d hd)
 ·exact flatV1_of h
def flatOB:AObj→Bool
 | .box cells=>cells.all flatV0
 | .arr _ []=>true
 |_=>false
def flatHB (H:List (Nat×AObj)):Bool:=H.all fun p=>flatOB p.2
theorem flatHB_of {H:List (Nat×AObj)} (h:flatHB H=true):FlatH H:=fun p hp=>by
 have:=List.all_eq_true.1 h p hp
 unfold flatOB at this
 split at this
 ·rename_i cells e;rw [e];exact fun v hv=>flatV0_of (List.all_eq_true.1 this v hv)
 ·rename_i e;rw [e];exact fun e he=>by cases he
 ·cases this
attribute [go_sem] bk.eq_1 bx.eq_1 updN.eq_1 updN.eq_2 updX.eq_1 updX.eq_2 hasKey.eq_1 hasKey.eq_2 back.eq_1 orElse.eq_1 orElse.eq_2 orElse.eq_3 updOf.eq_1 backTo.eq_1 backTo.eq_2 backTo.eq_3 backTo.eq_4 objs.eq_1 objs.eq_2
def bAnd (k:IntKind) (a b:Int):Int:=k.wrap ((BitVec.ofInt k.bits a&&&BitVec.ofInt k.bits b).toNat:Nat)
def bOr (k:IntKind) (a b:Int):Int:=k.wrap ((BitVec.ofInt k.bits a|||BitVec.ofInt k.bits b).toNat:Nat)
def bXor (k:IntKind) (a b:Int):Int:=k.wrap ((BitVec.ofInt k.bits a ^^^ BitVec.ofInt k.bits b).toNat:Nat)
def bShr (k:IntKind) (a b:Int):Int:=a.fdiv (2 ^ min b.toNat k.bits)
def bShl (k:IntKind) (a b:Int):Int:=k.wrap (a*2 ^ min b.toNat k.bits)
theorem int_and {k:IntKind} {a b:Int} {K:OK}:intVC .and k a b K=K (.d (.int k (bAnd k a b))) []:=rfl
theorem int_or {k:IntKind} {a b:Int} {K:OK}:intVC .or k a b K=K (.d (.int k (bOr k a b))) []:=rfl
theorem int_xor {k:IntKind} {a b:Int} {K:OK}:intVC .xor k a b K=K (.d (.int k (bXor k a b))) []:=rfl
theorem int_shr {k:IntKind} {a b:Int} {K:OK}:intVC .shr k a b K=Req (0≤b) (K (.d (.int k (bShr k a b))) []):=rfl
theorem int_shl {k:IntKind} {a b:Int} {K:OK}:intVC .shl k a b K=Req (0≤b) (K (.d (.int k (bShl k a b))) []):=rfl
attribute [go_sem high] int_and int_or int_xor int_shr int_shl
section
variable {P:Program} {h:Heap} {tb:Nat} {f:FuncId} {args args0:List V} {H0:List (Nat×AObj)} {K:OK} {outs:List V} {res:V} {H':List (Nat×AObj)}
end
end Go.Rx
namespace Go.Rx
open Go Go.RowKit
def FrEq:Option (V×List Nat)→V→Prop
 |some (v,_),r=>v=r
 |none,_=>False
def retF (rs:List ResultVar) (T:Tys) (res:V):Exit→St→Prop
 | .normal,s| .ret,s=>resK T s rs fun vs=>FrEq (freezeV (uget s.H) (one vs)) res
 |_,_=>False
theorem call_fr {P:Program} {T:Tys} (hT:TyOK P T) (hm:P.follows .mixedOrders=true) {f:FuncId} {fn:Func} {c:Code} (hf:P.funcs[f]? =some fn) (hname:(fn.name== "runtime.NumGoroutine")=false) (hb:fn.body=some c)
  (hd:codeDst (canSlot fn.ntmps []) c=true) (hr hl:Hints) {args:List V} {outs:List V} {res:V} (hlen:args.length≤fn.ntmps) (ho:(outs.all fun x=>match x with| .dead=>true|_=>false)=true)
  (hv:cVC T P hr hl c (start args []) (retF fn.results.toList T res)):CallOK P f args [] outs res []:=by
 refine ⟨⟨fn,hf,hname,by rw [hb];rfl⟩,fun w vs lam ok hk hal hargs=>?_⟩
 refine calls_of_wp hf hb ?_
 let U:Nat→Prop:=fun b=>∃n,hget ([]:List (Nat×AObj)) n≠none∧lam n=some b
 let a0:Act:= {tmps:=⟨vs⟩++Array.replicate (fn.ntmps - (⟨vs⟩:Array Value).size) undef,defers:=[]}
 let N:Slots:= {size:=fn.ntmps,pin:=fun t=>([]:List Bool).getD t false,val:=fun t=>a0.tmps.getD t undef}
 have hcan:∀d,canSlot fn.ntmps [] d=true→N.can d:=fun d h=>by
  simp only [canSlot,Bool.and_eq_true,Nat.blt_eq,Bool.not_eq_true'] at h
  exact h
 have hsz:vs.length≤fn.ntmps:=by omega
 have ha0:∀t,a0.tmps.getD t undef=(vs[t]?).getD undef:=fun t=>by
  show ((⟨vs⟩:Array Value)++Array.replicate (fn.ntmps - vs.length) undef).getD t undef=_
  simp only [Array.getD_eq_getD_getElem?]
  rw [Array.getElem?_append]
  by_cases ht:t<vs.length
  ·simp [ht]
  ·simp only [List.size_toArray,ht,if_false]
   rw [List.getElem?_eq_none (by omega),Array.getElem?_replicate]
   split<;>rfl
 have hE:∀t,eget (start args []).env t=(args[t]?).getD .dead:=fun t=>by
  have:=eget_start args 0 t
  rwa [Nat.zero_add] at this
 have hH:uget (start args []).H=hget []:=uget_map []
 have hs:SRs ok U w N (start args []) a0 w:=by
  refine ⟨ok,lam,?_,fun t=>?_,fun t=>VGood.all _,?_,fun t _=>rfl,rfl,Fr.refl _ _⟩
  ·rw [hH]
   exact ⟨hk,fun n o _=>by cases o with|box c=>exact fun v _=>VGood.all v|arr=>trivial,fun _ _=>trivial,fun b hb=> .inl hb,fun n b hn hb=> .inl ⟨n,hn,hb⟩,Nat.le_refl _⟩
  ·rw [hH,hE,ha0]
   cases hx:args[t]? with
   |none=>exact .dead
   |some x=>
    have ht:t<vs.length:=by have:=(List.getElem?_eq_some_iff.1 hx).1;omega
    have hv:vs[t]? =some vs[t]:=List.getElem?_eq_getElem ht
    rw [hv]
    exact hargs t x _ hx hv
  ·show ((⟨vs⟩:Array Value)++Array.replicate (fn.ntmps - vs.length) undef).size=fn.ntmps
   simp;omega
 refine code_sound hT hcan hm hr hl c hd (fun e s a w' h hK=>?_) hs hv
 have fin:(resK T s fn.results.toList fun vs=>FrEq (freezeV (uget s.H) (one vs)) res)→a.defers=[]∧∃v,(results fn a.tmps).run P w'= .ok v w'∧∃v' lam' ok',Ending.returned v= .returned v'∧Fr U w w'∧HOK w' ok' lam' (hget [])∧
   VRel w' ok' lam' (hget []) res v'∧(∀(i:Nat) x v,outs[i]? =some x→vs[i]? =some v→VRel w' ok' lam' (hget []) x v)∧
   (∀b,ok' b→ok b∨(∃n,hget ([]:List (Nat×AObj)) n≠none∧lam n=some b)∨w.heap.size≤b)∧
   (∀n b,hget ([]:List (Nat×AObj)) n≠none→lam' n=some b→(∃n',hget ([]:List (Nat×AObj)) n'≠none∧lam n'=some b)∨w.heap.size≤b):=by
  intro hlv
  obtain ⟨ok1,lam1,h⟩:=h
  obtain ⟨rvs,cvs,hlv,hrun,hrel⟩:=res_sound hT h (f:=fun| .tmp t=>pure (a.tmps.getD t undef)| .cell b t=>do loadVar t (←asAddr (a.tmps.getD b undef))) (fun _=>rfl) (fun _ _=>rfl) hlv
  cases hfz:freezeV (uget s.H) (one rvs) with
  |none=>rw [hfz] at hlv;exact hlv.elim
  |some p=>
   obtain ⟨v',ls⟩:=p
   rw [hfz] at hlv
   obtain rfl:v'=res:=hlv
   have hok:=h.ctx.hok
   refine ⟨h.defers,_,results_run (f:=fun| .tmp t=>pure (a.tmps.getD t undef)| .cell b t=>do loadVar t (←asAddr (a.tmps.getD b undef))) (fun _=>rfl) (fun _ _=>rfl) hrun,_,lam1,okB ok1 lam1 (uget s.H) ls,rfl,⟨h.fr.os,h.fr.tape,h.fr.output,h.fr.size,fun k hk hn=>h.fr.block k hk (by rintro (h1|h1);exact hn h1;omega),h.fr.sized⟩,
    ⟨fun n n' b h=>absurd rfl h,fun n b h=>absurd rfl h,fun n b h=>absurd rfl h,fun b hb=>?_,fun n o h=>by cases h⟩,freezeV_sound hok (one_rel hrel) hfz,fun i x v hx _=>?_,fun b hb=>?_,fun n b h=>absurd rfl h⟩
   ·rcases hb with hb|⟨n,_,h1,h2⟩
    ·exact hok.oklt b hb
    ·exact hok.lt n b h1 h2
   ·have:=List.all_eq_true.1 ho x (List.mem_of_getElem? hx)
    cases x<;>first|exact .dead|simp at this
   ·rcases hb with hb|⟨n,_,h1,h2⟩
    ·exact h.ctx.okb b hb
    ·rcases h.ctx.ownb n b h1 h2 with h|h
     ·exact .inr (.inl h)
     ·exact .inr (.inr h)
 cases e with
 |normal=>exact fin hK
 |ret=>exact fin hK
 |_=>exact hK.elim
attribute [go_sem] FrEq.eq_1 FrEq.eq_2 retF.eq_1 retF.eq_2 retF.eq_3 toDs.eq_1 toDs.eq_2
theorem freezeV_tup {h:Heap} {vs:List V}:freezeV h (.tup vs)=match toDs h vs with|some (xs,ls)=>some (.tup (xs.map .d),ls)|none=>none:=rfl
theorem freezeV_d {h:Heap} {x:D}:freezeV h (.d x)=some (.d x,[]):=rfl
theorem freezeV_own {h:Heap} {n o l:Nat}:freezeV h (.own n o l)=match toD h (.own n o l) with|some (x,ls)=>some (.d x,ls)|none=>none:=rfl
theorem freezeV_agg {h:Heap} {vs:List V}:freezeV h (.agg vs)=match toD h (.agg vs) with|some (x,ls)=>some (.d x,ls)|none=>none:=rfl
theorem freezeV_nils {h:Heap}:freezeV h .nils=some (.d (.sl []),[]):=rfl
attribute [go_sem] freezeV_tup freezeV_d freezeV_own freezeV_agg freezeV_nils
@[congr] theorem FrEq_congr {o o':Option (V×List Nat)} {r:V} (e:mark o=o'):FrEq o r=FrEq o' r:=by subst e;rfl
end Go.Rx
namespace Go.Rx
open Go Go.RowKit
section
variable {P:Program} {h:Heap} {tb:Nat} {f:FuncId} {K:OK} {xs:List D} {ls:List Nat} {res:V} {H' H0:List (Nat×AObj)}
theorem call_boxO (gone:Bool) {n:Nat} {cells:List V} {os:List Nat} {rest:List V} (hc:CallOK P f (.ref 0 0::xs.map .d) H0 (.ref 0 0::xs.map fun _=> .dead) res H')
  (hn:h n=some (.box cells)) (hps:refO h n=n::os) (hnd:nodup (n::os)=true) (hr:toDs h rest=some (xs,ls)) (hdis:((n::os).all fun m=> !ls.contains m)=true)
  (hH:objs h (idx (n::os)) 0 (n::os)=H0) (hb:isBox (hget H' 0)=true) (hs:smallKeys H'=true)
  (hf:gone=true∨ls=[]∨(FlatV res∧FlatH H')) (hk:K (renV (bx n tb H') res) ((bif gone then ls.map (·,none) else [])++((n::os).map (·,none)++updX n tb H' H'))):callVC P h tb f (.ref n 0::rest) K:=by
 subst hH
 have hidx:idx (n::os) n=some 0:=by simp [idx]
 have hbk:back tb (.box n::xs.map Arg.dat) (.ref 0 0::xs.map fun _=>V.dead) H'=bx n tb H':=by
  funext j
  unfold back bx
  simp only [backTo]
  cases h0:(0:Nat)==j with
  |true=>cases hasKey H' j<;>rfl
  |false=>simp only [cond_false];rw [backTo_dat];unfold bk;cases hasKey H' j<;>rfl
 have hu:∀l,updOf tb (.box n::xs.map Arg.dat) (.ref 0 0::xs.map fun _=>V.dead) l H'=l.map (·,none)++updX n tb H' H':=fun l=>by rw [updOf,hbk,updX_eq]
 have hgat:gather h [] (.ref n 0::rest)=some (.box n::xs.map .dat,n::os,ls):=by
  simp only [gather,List.drop_nil,gather_of_toDs hr,List.headD_nil,gather1,hn,hps,List.append_nil]
 have hcall:CallOK P f ((Arg.box n::xs.map .dat).map (argV (n::os))) (objs h (idx (n::os)) 0 (n::os)) (.ref 0 0::xs.map fun _=> .dead) res H':=by
  have e1:(xs.map Arg.dat).map (argV (n::os))=xs.map .d:=by rw [List.map_map];rfl
  simp only [List.map_cons,e1,argV,renC,hidx]
  exact hc
 refine ⟨[],[],_,_,_,.ref 0 0::xs.map fun _=> .dead,res,H',hgat,?_,hcall,?_,ownFit_dat xs,?_⟩
 ·rw [hnd,hdis]
  simp only [List.filterMap_cons,Arg.name?,names_dat,nodup]
  simp
 ·simp only [outsFit,outsFit_dat,hs,hb];rfl
 ·cases gone with
  |true=>refine .inr ?_;rw [hbk,hu];simpa [List.map_append,List.append_assoc] using hk
  |false=>
   refine .inl ⟨hf.resolve_left (by simp),?_⟩
   rw [hbk,hu];simpa using hk
end
end Go.Rx
namespace Go.Rx
open Go Go.RowKit
section
variable {P:Program} {h:Heap} {tb:Nat} {f:FuncId} {K:OK} {xs:List D} {ls:List Nat} {res:V} {H' H0:List (Nat×AObj)}
theorem gather_last {n:Nat} {cells:List V} {os:List Nat} (hn:h n=some (.box cells)) (hps:refO h n=n::os):∀ {vs:List V} {xs:List D} {ls:List Nat},toDs h vs=some (xs,ls)→
  gather h [] (vs++[.ref n 0])=some (xs.map Arg.dat++[.box n],n::os,ls)
 |[],xs,ls,e=>by
  simp [toDs] at e;obtain ⟨rfl,rfl⟩:=e
  simp only [List.nil_append,gather,List.drop_nil,List.headD_nil,gather1,hn,hps,List.append_nil,List.map_nil]
 |v::vs,xs,ls,e=>by
  simp only [toDs] at e
  split at e
  ·rename_i x l xs' ls' h1 h2
   simp at e;obtain ⟨rfl,rfl⟩:=e
   have ih:=gather_last hn hps h2
   have hd:gatherD h v (xs'.map Arg.dat++[.box n]) (n::os) ls'=some (.dat x::(xs'.map Arg.dat++[.box n]),n::os,l++ls'):=by unfold gatherD;rw [h1]
   simp only [List.cons_append,gather,List.drop_nil,ih,List.headD_nil,List.map_cons]
   cases v with
   |ref n off=>simp [toD,cD] at h1
   |_=>exact hd
  ·cases e
theorem outsFit_last (hb:isBox (hget H' 0)=true) {n:Nat}:∀xs:List D,outsFit H' (xs.map Arg.dat++[.box n]) (xs.map (fun _=>V.dead)++[.ref 0 0])=true
 |[]=>by simp [outsFit,hb]
 |x::xs=>by simp only [List.map_cons,List.cons_append,outsFit];exact outsFit_last hb xs
theorem ownFit_last {n:Nat}:∀xs:List D,ownFit h H' (xs.map Arg.dat++[.box n]) (xs.map (fun _=>V.dead)++[.ref 0 0])
 |[]=>trivial
 |x::xs=>ownFit_last xs
theorem backTo_last {n:Nat}:∀(xs:List D) (j:Nat),backTo (xs.map Arg.dat++[.box n]) (xs.map (fun _=>V.dead)++[.ref 0 0]) j=bif 0==j then some n else none
 |[],j=>rfl
 |x::xs,j=>by simp only [List.map_cons,List.cons_append,backTo];exact backTo_last xs j
theorem names_last {n:Nat}:∀xs:List D,(xs.map Arg.dat++[Arg.box n]).filterMap Arg.name? =[n]
 |[]=>rfl
 |x::xs=>by simp only [List.map_cons,List.cons_append,List.filterMap_cons,Arg.name?];exact names_last xs
theorem call_boxL (gone:Bool) {n:Nat} {cells:List V} {os:List Nat} {vs:List V} (hc:CallOK P f (xs.map .d++[.ref 0 0]) H0 (xs.map (fun _=> .dead)++[.ref 0 0]) res H')
  (hn:h n=some (.box cells)) (hps:refO h n=n::os) (hnd:nodup (n::os)=true) (hr:toDs h vs=some (xs,ls)) (hdis:((n::os).all fun m=> !ls.contains m)=true)
  (hH:objs h (idx (n::os)) 0 (n::os)=H0) (hb:isBox (hget H' 0)=true) (hs:smallKeys H'=true)
  (hf:gone=true∨ls=[]∨(FlatV res∧FlatH H')) (hk:K (renV (bx n tb H') res) ((bif gone then ls.map (·,none) else [])++((n::os).map (·,none)++updX n tb H' H'))) {args:List V} (ha:args=vs++[.ref n 0]):callVC P h tb f args K:=by
 subst hH;subst ha
 have hidx:idx (n::os) n=some 0:=by simp [idx]
 have hbk:back tb (xs.map Arg.dat++[.box n]) (xs.map (fun _=>V.dead)++[.ref 0 0]) H'=bx n tb H':=by
  funext j
  unfold back bx
  rw [backTo_last]
  cases h0:(0:Nat)==j with
  |true=>cases hasKey H' j<;>rfl
  |false=>simp only [cond_false];unfold bk;cases hasKey H' j<;>rfl
 have hu:∀l,updOf tb (xs.map Arg.dat++[.box n]) (xs.map (fun _=>V.dead)++[.ref 0 0]) l H'=l.map (·,none)++updX n tb H' H':=fun l=>by rw [updOf,hbk,updX_eq]
 have hcall:CallOK P f ((xs.map Arg.dat++[Arg.box n]).map (argV (n::os))) (objs h (idx (n::os)) 0 (n::os)) (xs.map (fun _=> .dead)++[.ref 0 0]) res H':=by
  have e1:(xs.map Arg.dat).map (argV (n::os))=xs.map .d:=by rw [List.map_map];rfl
  simp only [List.map_append,List.map_cons,List.map_nil,e1,argV,renC,hidx]
  exact hc
 refine ⟨[],[],_,_,_,xs.map (fun _=> .dead)++[.ref 0 0],res,H',gather_last hn hps hr,?_,(by simp only [grpA_nil];exact hcall),?_,ownFit_last xs,?_⟩
 ·rw [hnd,hdis,names_last]
  simp [nodup]
 ·rw [outsFit_last hb,hs];rfl
 ·cases gone with
  |true=>refine .inr ?_;rw [hbk,hu];simpa [List.map_append,List.append_assoc] using hk
  |false=>
   refine .inl ⟨hf.resolve_left (by simp),?_⟩
   rw [hbk,hu];simpa using hk
end
end Go.Rx
namespace Go.Rx
open Go Go.RowKit
theorem freezeV_good {h:Heap} {v v':V} {ls:List Nat} (hf:freezeV h v=some (v',ls)):VGood (fun _=>False) v':=by
 have dat:∀v,(match toD h v with|some (x,ls)=>some (V.d x,ls)|none=>none)=some (v',ls)→VGood (fun _=>False) v':=fun v hf=>by
  split at hf
  ·simp at hf;obtain ⟨rfl,rfl⟩:=hf;exact .d _
  ·cases hf
 cases v with
 |tup vs=>
  simp only [freezeV] at hf
  split at hf
  ·simp at hf;obtain ⟨rfl,rfl⟩:=hf
   exact .tup fun v hv=>by
    obtain ⟨x,_,rfl⟩:=List.mem_map.1 hv
    exact .d x
  ·cases hf
 |d x=>exact dat (.d x) hf
 |ref n o=>exact dat (.ref n o) hf
 |el n i j=>exact dat (.el n i j) hf
 |own n o l=>exact dat (.own n o l) hf
 |nils=>exact dat .nils hf
 |agg vs=>exact dat (.agg vs) hf
 |clo g vs=>exact dat (.clo g vs) hf
 |dead=>exact dat .dead hf
theorem freeze_box {P : Program} {f : FuncId} {args : List V} {H : List (Nat × AObj)} {outs : List V} {res res' : V} {H' : List (Nat × AObj)} {cells : List V} {ds : List D} {ls ls' : List Nat}
    (hc : CallOK P f args H outs res H') (h0 : hget H' 0 = some (.box cells)) (hd : toDs (hget H') cells = some (ds, ls)) (hf : freezeV (hget H') res = some (res', ls')) (hn : 0 ∉ ls ++ ls')
    (ho : (outs.all fun x => match x with | .dead => true | .ref 0 _ => true | _ => false) = true) : CallOK P f args H outs res' [(0, .box (ds.map .d))] := by
  refine ⟨hc.1, fun w vs lam ok hk hl hv => (hc.2 w vs lam ok hk hl hv).mono ?_⟩
  rintro e w' ⟨v, lam', ok', rfl, hfr, hk', hres, hout, hsub, hown⟩
  have hmono : ∀ (a b : List Nat), (∀ n ∈ a, n ∈ b) → ∀ x, okB ok' lam' (hget H') a x → okB ok' lam' (hget H') b x := fun a b hab x hx => by
    rcases hx with hx | ⟨n, h1, h2, h3⟩
    · exact .inl hx
    · exact .inr ⟨n, hab n h1, h2, h3⟩
  have hne : hget H' 0 ≠ none := by rw [h0]; simp
  obtain ⟨b, cs, T, g1, g2, g3, g4⟩ := hk'.obj 0 _ h0
  have hrel : Rel2 (DRel w' (okB ok' lam' (hget H') ls)) ds cs.toList := toDs_sound hk' (ws := cs.toList) ⟨by rw [g3]; simp, fun i x c hx hy => g4 i x c hx (by rw [← Array.getElem?_toList]; exact hy)⟩ hd
  have key : ∀ n, hget [(0, AObj.box (ds.map .d))] n ≠ none → n = 0 := fun n hn => by
    by_cases h : n = 0
    · exact h
    · exact absurd (by have e : (0 == n) = false := by simpa using (Ne.symm h)
                       simp only [hget, e, cond_false]) hn
  refine ⟨v, lam', okB ok' lam' (hget H') (ls ++ ls'), rfl, hfr, ⟨fun n n' b h h' _ _ => by rw [key n h, key n' h'], fun n b h hb => ?_, fun n b h hb hx => ?_, fun b hb => ?_, fun n o h => ?_⟩, ?_, fun i x v hx hy => ?_, fun b hb => ?_, fun n b h hb => ?_⟩
  · rw [key n h] at hb; exact hk'.lt 0 b hne hb
  · rw [key n h] at hb
    rcases hx with hx | ⟨m, h1, h2, h3⟩
    · exact hk'.dis 0 b hne hb hx
    · have := hk'.inj 0 m b hne h2 hb h3
      subst this; exact hn h1
  · rcases hb with hb | ⟨n, _, h1, h2⟩
    · exact hk'.oklt b hb
    · exact hk'.lt n b h1 h2
  · obtain rfl := key n (by rw [h]; simp)
    have : o = .box (ds.map .d) := by simpa [hget] using h.symm
    subst this
    refine ⟨b, cs, T, g1, g2, by rw [List.length_map, hrel.1]; simp, fun i x c hx hy => ?_⟩
    rw [List.getElem?_map, Option.map_eq_some_iff] at hx
    obtain ⟨d, hd', rfl⟩ := hx
    exact .d ((hrel.2 i d c hd' (by rw [Array.getElem?_toList]; exact hy)).mono (fun _ _ => rfl) (hmono _ _ fun n hn => List.mem_append_left _ hn))
  · exact (freezeV_sound hk' hres hf (lam' := lam') (h' := hget [(0, AObj.box (ds.map .d))])).mono (freezeV_good hf) (fun _ _ => rfl) (hmono _ _ fun n hn => List.mem_append_right _ hn) (fun _ h => h.elim) (fun _ h => h.elim) (fun _ h => h.elim) (fun _ _ _ _ _ _ _ h => h.elim)
  · have hxx := List.all_eq_true.1 ho x (List.mem_of_getElem? hx)
    have hvx := hout i x v hx hy
    cases x with
    | dead => exact .dead
    | ref n off =>
      cases n with
      | zero =>
        cases hvx with
        | ref h1 h =>
          refine .ref h1 fun o ho => ?_
          exact h _ h0
      | succ n => simp at hxx
    | _ => simp at hxx
  · rcases hb with hb | ⟨n, _, h1, h2⟩
    · exact hsub b hb
    · rcases hown n b h1 h2 with h | h
      · exact .inr (.inl h)
      · exact .inr (.inr h)
  · rw [key n h] at hb; exact hown 0 b hne hb
theorem freeze_box2 {P : Program} {f : FuncId} {args : List V} {H : List (Nat × AObj)} {outs : List V} {res res' : V} {H' : List (Nat × AObj)} {cells cells2 : List V} {ds ds2 : List D} {ls ls2 ls' : List Nat}
    (hc : CallOK P f args H outs res H') (h0 : hget H' 0 = some (.box cells)) (h1 : hget H' 1 = some (.box cells2)) (hd : toDs (hget H') cells = some (ds, ls)) (hd2 : toDs (hget H') cells2 = some (ds2, ls2)) (hf : freezeV (hget H') res = some (res', ls'))
    (hn : 0 ∉ ls ++ ls2 ++ ls') (hn1 : 1 ∉ ls ++ ls2 ++ ls')
    (ho : (outs.all fun x => match x with | .dead => true | .ref 0 _ => true | .ref 1 _ => true | _ => false) = true) : CallOK P f args H outs res' [(0, .box (ds.map .d)), (1, .box (ds2.map .d))] := by
  refine ⟨hc.1, fun w vs lam ok hk hl hv => (hc.2 w vs lam ok hk hl hv).mono ?_⟩
  rintro e w' ⟨v, lam', ok', rfl, hfr, hk', hres, hout, hsub, hown⟩
  have hmono : ∀ (a b : List Nat), (∀ n ∈ a, n ∈ b) → ∀ x, okB ok' lam' (hget H') a x → okB ok' lam' (hget H') b x := fun a b hab x hx => by
    rcases hx with hx | ⟨n, h1, h2, h3⟩
    · exact .inl hx
    · exact .inr ⟨n, hab n h1, h2, h3⟩
  have hne : hget H' 0 ≠ none := by rw [h0]; simp
  have hne1 : hget H' 1 ≠ none := by rw [h1]; simp
  have key : ∀ n, hget [(0, AObj.box (ds.map .d)), (1, .box (ds2.map .d))] n ≠ none → n = 0 ∨ n = 1 := fun n hn => by
    by_cases h : n = 0
    · exact .inl h
    · by_cases h' : n = 1
      · exact .inr h'
      · exact absurd (by have e : (0 == n) = false := by simpa using (Ne.symm h)
                         have e' : (1 == n) = false := by simpa using (Ne.symm h')
                         simp only [hget, e, e', cond_false]) hn
  have hne' : ∀ n, hget [(0, AObj.box (ds.map .d)), (1, .box (ds2.map .d))] n ≠ none → hget H' n ≠ none := fun n hn => by
    rcases key n hn with rfl | rfl
    · exact hne
    · exact hne1
  have hnot : ∀ n, hget [(0, AObj.box (ds.map .d)), (1, .box (ds2.map .d))] n ≠ none → n ∉ ls ++ ls2 ++ ls' := fun n h => by
    rcases key n h with rfl | rfl
    · exact hn
    · exact hn1
  have robj : ∀ (k : Nat) (cs : List V) (es : List D) (l : List Nat), hget H' k = some (.box cs) → toDs (hget H') cs = some (es, l) → (∀ n ∈ l, n ∈ ls ++ ls2 ++ ls') → ObjRel w' (okB ok' lam' (hget H') (ls ++ ls2 ++ ls')) lam' (hget [(0, AObj.box (ds.map .d)), (1, .box (ds2.map .d))]) k (.box (es.map .d)) := by
    intro k cs es l hk0 hes hsubl
    obtain ⟨b, bs, T, g1, g2, g3, g4⟩ := hk'.obj k _ hk0
    have hrel : Rel2 (DRel w' (okB ok' lam' (hget H') l)) es bs.toList := toDs_sound hk' (ws := bs.toList) ⟨by rw [g3]; simp, fun i x c hx hy => g4 i x c hx (by rw [← Array.getElem?_toList]; exact hy)⟩ hes
    refine ⟨b, bs, T, g1, g2, by rw [List.length_map, hrel.1]; simp, fun i x c hx hy => ?_⟩
    rw [List.getElem?_map, Option.map_eq_some_iff] at hx
    obtain ⟨d, hd', rfl⟩ := hx
    exact .d ((hrel.2 i d c hd' (by rw [Array.getElem?_toList]; exact hy)).mono (fun _ _ => rfl) (hmono _ _ hsubl))
  refine ⟨v, lam', okB ok' lam' (hget H') (ls ++ ls2 ++ ls'), rfl, hfr, ⟨fun n n' b h h' hb hb' => hk'.inj n n' b (hne' n h) (hne' n' h') hb hb', fun n b h hb => hk'.lt n b (hne' n h) hb, fun n b h hb hx => ?_, fun b hb => ?_, fun n o h => ?_⟩, ?_, fun i x v hx hy => ?_, fun b hb => ?_, fun n b h hb => hown n b (hne' n h) hb⟩
  · rcases hx with hx | ⟨m, g1, g2, g3⟩
    · exact hk'.dis n b (hne' n h) hb hx
    · have := hk'.inj n m b (hne' n h) g2 hb g3
      subst this; exact hnot _ h g1
  · rcases hb with hb | ⟨n, _, h1, h2⟩
    · exact hk'.oklt b hb
    · exact hk'.lt n b h1 h2
  · rcases key n (by rw [h]; simp) with rfl | rfl
    · have : o = .box (ds.map .d) := by simpa [hget] using h.symm
      subst this
      exact robj 0 _ _ _ h0 hd fun n hn => by simp [hn]
    · have : o = .box (ds2.map .d) := by simpa [hget] using h.symm
      subst this
      exact robj 1 _ _ _ h1 hd2 fun n hn => by simp [hn]
  · exact (freezeV_sound hk' hres hf (lam' := lam') (h' := hget [(0, AObj.box (ds.map .d)), (1, .box (ds2.map .d))])).mono (freezeV_good hf) (fun _ _ => rfl) (hmono _ _ fun n hn => by simp [hn]) (fun _ h => h.elim) (fun _ h => h.elim) (fun _ h => h.elim) (fun _ _ _ _ _ _ _ h => h.elim)
  · have hxx := List.all_eq_true.1 ho x (List.mem_of_getElem? hx)
    have hvx := hout i x v hx hy
    cases x with
    | dead => exact .dead
    | ref n off =>
      match n, hvx, hxx with
      | 0, hvx, _ =>
        cases hvx with
        | ref h1 h => exact .ref h1 fun o ho => h _ h0
      | 1, hvx, _ =>
        cases hvx with
        | ref h1' h => exact .ref h1' fun o ho => h _ h1
      | n + 2, _, hxx => simp at hxx
    | _ => simp at hxx
  · rcases hb with hb | ⟨n, _, h1, h2⟩
    · exact hsub b hb
    · rcases hown n b h1 h2 with h | h
      · exact .inr (.inl h)
      · exact .inr (.inr h)
section
variable {P:Program} {h:Heap} {tb:Nat} {f:FuncId} {K:OK} {x:D}
theorem call_box2 {n m:Nat} {cells cells2 c1 c2:List V} (hc:CallOK P f [.ref 0 0,.ref 1 0] [(0,.box cells),(1,.box cells2)] [.ref 0 0,.ref 1 0] (.d x) [(0,.box c1),(1,.box c2)])
  (hn:h n=some (.box cells)) (hm:h m=some (.box cells2)) (hro:refO h n=[n]) (hro':refO h m=[m]) (hne:(n==m)=false) (hr1:renO (idx [n,m]) (.box cells)= .box cells) (hr2:renO (idx [n,m]) (.box cells2)= .box cells2)
  (hx:∀r,renO r (.box c1)= .box c1) (hy:∀r,renO r (.box c2)= .box c2) (hk:K (.d x) [(n,none),(m,none),(n,some (.box c1)),(m,some (.box c2))]):callVC P h tb f [.ref n 0,.ref m 0] K:=by
 have hne':n≠m:=by simpa using hne
 have i1:idx [n,m] n=some 0:=by simp [idx]
 have i2:idx [n,m] m=some 1:=by simp [idx,hne]
 have hgat:gather h [] [.ref n 0,.ref m 0]=some ([.box n,.box m],[n,m],[]):=by
  simp only [gather,List.drop_nil,List.headD_nil,gather1,hn,hm,hro,hro',List.append_nil,List.singleton_append]
 refine ⟨[],[],[.box n,.box m],[n,m],[],[.ref 0 0,.ref 1 0],.d x,[(0,.box c1),(1,.box c2)],hgat,?_,?_,rfl,trivial,.inl ⟨.inl rfl,?_⟩⟩
 ·simp [nodup,Arg.name?,hne']
 ·simp only [grpA_nil,List.map_cons,List.map_nil,argV,renC,i1,i2,objs,hn,hm,hr1,hr2]
  exact hc
 ·have b0:back tb [.box n,.box m] [.ref 0 0,.ref 1 0] [(0,AObj.box c1),(1,.box c2)] 0=some n:=rfl
  have b1:back tb [.box n,.box m] [.ref 0 0,.ref 1 0] [(0,AObj.box c1),(1,.box c2)] 1=some m:=rfl
  simpa only [updOf,List.map_cons,List.map_nil,b0,b1,hx,hy,Option.getD_some,renV,renA,renC,List.cons_append,List.nil_append] using hk
end
end Go.Rx
namespace Go.Rx
open Go
theorem rq {p q:Prop} (h2:q) (h1:p:=by first|omega|assumption|exact commP_of (by kernel_rfl)|(simp only [LEN,List.length_append,List.length_cons,List.length_nil];omega)|(simp [D.one];omega)|(simp [D.one];done)):Req p q:=⟨h1,h2⟩
theorem way_tt {p q:Prop}:Way true p q=p:=propext ⟨fun h=>h.1 rfl,fun h=>⟨fun _=>h,(fun h=>nomatch h)⟩⟩
theorem way_ff {p q:Prop}:Way false p q=q:=propext ⟨fun h=>h.2 rfl,fun h=>⟨(fun h=>nomatch h),fun _=>h⟩⟩
theorem wayT_tt {p q:Prop}:WayG true true p q=p:=propext ⟨fun h=>h.1 rfl,fun h=>⟨fun _=>h,(fun h=>nomatch h)⟩⟩
theorem wayT_ff {p q:Prop}:WayG false true p q=q:=propext ⟨fun h=>h.2 rfl,fun h=>⟨(fun h=>nomatch h),fun _=>h⟩⟩
theorem wayF_ff {p q:Prop}:WayG false false p q=p:=propext ⟨fun h=>h.1 rfl,fun h=>⟨fun _=>h,(fun h=>nomatch h)⟩⟩
theorem wayF_tt {p q:Prop}:WayG true false p q=q:=propext ⟨fun h=>h.2 rfl,fun h=>⟨(fun h=>nomatch h),fun _=>h⟩⟩
attribute [go_sem] way_tt way_ff wayT_tt wayT_ff wayF_ff wayF_tt
theorem wy {b:Bool} {p q:Prop} (h:p) (e:b=true:=by rfl):Way b p q:=by subst e;rw [way_tt];exact h
theorem wn {b:Bool} {p q:Prop} (h:q) (e:b=false:=by rfl):Way b p q:=by subst e;rw [way_ff];exact h
theorem gy {b w:Bool} {p q:Prop} (h:p) (e:b=w:=by rfl):WayG b w p q:=⟨fun _=>h,fun h2=>(by subst e;cases b<;>cases h2)⟩
theorem gn {b w:Bool} {p q:Prop} (h:q) (e:b= !w:=by rfl):WayG b w p q:=⟨fun h2=>(by subst h2;cases b<;>cases e),fun _=>h⟩
structure Later (p:Prop):Prop where
 get:p
end Go.Rx
namespace Go.Rx
open Go
theorem drop_cons {α:Type} {l:List α} {i:Nat} {p:α} (h:l[i]? =some p):l.drop i=p::l.drop (i+1):=by
 obtain ⟨hi,h⟩:=List.getElem?_eq_some_iff.1 h
 rw [List.drop_eq_getElem_cons hi,h]
theorem take_snoc {α:Type} {l:List α} {i:Nat} {p:α} (h:l[i]? =some p):l.take (i+1)=l.take i++[p]:=by
 obtain ⟨hi,h⟩:=List.getElem?_eq_some_iff.1 h
 rw [List.take_succ_eq_append_getElem hi,h]
theorem some_at {α:Type} {l:List α} {i:Nat} (h:(i:Int)<(l.length:Int)):∃p,l[i]? =some p:=
 ⟨l[i]'(by omega),by simp⟩
def smallSl {α:Type} (small:α→Prop) (l:List α):Prop:=l.length≤1048576∧∀x∈l,small x
def strs (l:List (List UInt8)):List (List D):=l.map fun s=> [.str s]
theorem strs_length {l:List (List UInt8)}:(strs l).length=l.length:=by simp [strs]
theorem lget_strs {l:List (List UInt8)} {i:Nat} {p:List UInt8} (h:l[i]? =some p):lget (strs l) i=[.str p]:=by simp [lget,strs,List.getD,h]
theorem strs_set {m:List (List UInt8)} {i:Nat} {p:List UInt8}:(strs m).set i [.str p]=strs (m.set i p):=by simp [strs,List.map_set]
def ints (l:List Int):List (List D):=l.map fun s=> [.int .i64 s]
theorem ints_length {l:List Int}:(ints l).length=l.length:=by simp [ints]
theorem lget_ints {l:List Int} {i:Nat} {p:Int} (h:l[i]? =some p):lget (ints l) i=[.int .i64 p]:=by simp [lget,ints,List.getD,h]
theorem ints_set {m:List Int} {i:Nat} {p:Int}:(ints m).set i [.int .i64 p]=ints (m.set i p):=by simp [ints,List.map_set]
end Go.Rx
namespace Go.Rx
open Go
def bls (l:List Bool):List (List D):=l.map fun b=> [.bool b]
theorem bls_length {l:List Bool}:(bls l).length=l.length:=by simp [bls]
theorem lget_bls {l:List Bool} {i:Nat} {p:Bool} (h:l[i]? =some p):lget (bls l) i=[.bool p]:=by simp [lget,bls,List.getD,h]
theorem bls_set {m:List Bool} {i:Nat} {p:Bool}:(bls m).set i [.bool p]=bls (m.set i p):=by simp [bls,List.map_set]
def bys (l:List UInt8):List (List D):=l.map byteCell
theorem bys_length {l:List UInt8}:(bys l).length=l.length:=by simp [bys]
theorem bys_set {m:List UInt8} {i:Nat} {p:UInt8}:(bys m).set i [.int .u8 p.toNat]=bys (m.set i p):=by simp [bys,List.map_set,byteCell]
theorem lget_bys {l:List UInt8} {i:Nat} {p:UInt8} (h:l[i]? =some p):lget (bys l) i=[.int .u8 p.toNat]:=by simp [lget,bys,List.getD,h,byteCell]
theorem strs_snoc {m:List (List UInt8)} {p:(List UInt8)}:strs m++[[.str p]]=strs (m++[p]):=by simp [strs]
theorem strs_take {m:List (List UInt8)} {n:Nat}:(strs m).take n=strs (m.take n):=by simp [strs]
theorem strs_row {m:List (List UInt8)}:∀c∈strs m,c.length=1:=fun c hc=>by simp only [strs,List.mem_map] at hc;obtain ⟨p,_,rfl⟩:=hc;rfl
theorem strs_one {m:List (List UInt8)}:∀c∈strs m,∀d∈c,d.one=true:=fun c hc d hd=>by
 simp only [strs,List.mem_map] at hc;obtain ⟨p,_,rfl⟩:=hc
 simp only [List.mem_cons,List.not_mem_nil,or_false] at hd
 subst hd;rfl
theorem flat_strs {l:List (List UInt8)} {m:Nat}:FlatO (.arr m (strs l)):=by
 intro e he d hd
 simp only [strs,List.mem_map] at he
 obtain ⟨p,_,rfl⟩:=he
 simp only [List.mem_cons,List.not_mem_nil,or_false] at hd
 subst hd;first|exact .str _|exact .int _ _|exact .bool _
theorem ints_snoc {m:List Int} {p:Int}:ints m++[[.int .i64 p]]=ints (m++[p]):=by simp [ints]
theorem ints_app {m l:List Int}:ints m++ints l=ints (m++l):=by simp [ints]
theorem ints_take {m:List Int} {n:Nat}:(ints m).take n=ints (m.take n):=by simp [ints]
theorem ints_drop {m:List Int} {n:Nat}:(ints m).drop n=ints (m.drop n):=by simp [ints]
theorem ints_row {m:List Int}:∀c∈ints m,c.length=1:=fun c hc=>by simp only [ints,List.mem_map] at hc;obtain ⟨p,_,rfl⟩:=hc;rfl
theorem ints_one {m:List Int}:∀c∈ints m,∀d∈c,d.one=true:=fun c hc d hd=>by
 simp only [ints,List.mem_map] at hc;obtain ⟨p,_,rfl⟩:=hc
 simp only [List.mem_cons,List.not_mem_nil,or_false] at hd
 subst hd;rfl
theorem flat_ints {l:List Int} {m:Nat}:FlatO (.arr m (ints l)):=by
 intro e he d hd
 simp only [ints,List.mem_map] at he
 obtain ⟨p,_,rfl⟩:=he
 simp only [List.mem_cons,List.not_mem_nil,or_false] at hd
 subst hd;first|exact .str _|exact .int _ _|exact .bool _
theorem bls_snoc {m:List Bool} {p:Bool}:bls m++[[.bool p]]=bls (m++[p]):=by simp [bls]
theorem bls_take {m:List Bool} {n:Nat}:(bls m).take n=bls (m.take n):=by simp [bls]
theorem bls_row {m:List Bool}:∀c∈bls m,c.length=1:=fun c hc=>by simp only [bls,List.mem_map] at hc;obtain ⟨p,_,rfl⟩:=hc;rfl
theorem bls_one {m:List Bool}:∀c∈bls m,∀d∈c,d.one=true:=fun c hc d hd=>by
 simp only [bls,List.mem_map] at hc;obtain ⟨p,_,rfl⟩:=hc
 simp only [List.mem_cons,List.not_mem_nil,or_false] at hd
 subst hd;rfl
theorem flat_bls {l:List Bool} {m:Nat}:FlatO (.arr m (bls l)):=by
 intro e he d hd
 simp only [bls,List.mem_map] at he
 obtain ⟨p,_,rfl⟩:=he
 simp only [List.mem_cons,List.not_mem_nil,or_false] at hd
 subst hd;first|exact .str _|exact .int _ _|exact .bool _
theorem bys_snoc {m:List UInt8} {p:UInt8}:bys m++[[.int .u8 p.toNat]]=bys (m++[p]):=by simp [bys,byteCell]
theorem bys_take {m:List UInt8} {n:Nat}:(bys m).take n=bys (m.take n):=by simp [bys]
theorem bys_row {m:List UInt8}:∀c∈bys m,c.length=1:=fun c hc=>by simp only [bys,List.mem_map] at hc;obtain ⟨p,_,rfl⟩:=hc;rfl
theorem bys_one {m:List UInt8}:∀c∈bys m,∀d∈c,d.one=true:=fun c hc d hd=>by
 simp only [bys,List.mem_map] at hc;obtain ⟨p,_,rfl⟩:=hc
 simp only [byteCell,List.mem_cons,List.not_mem_nil,or_false] at hd
 subst hd;rfl
theorem flat_bys {l:List UInt8} {m:Nat}:FlatO (.arr m (bys l)):=by
 intro e he d hd
 simp only [bys,List.mem_map] at he
 obtain ⟨p,_,rfl⟩:=he
 simp only [byteCell,List.mem_cons,List.not_mem_nil,or_false] at hd
 subst hd;first|exact .str _|exact .int _ _|exact .bool _
theorem strs_all {m:List (List UInt8)}:(strs m).take m.length=strs m:=by rw [strs_take,List.take_length]
theorem strs_all1 {m:List (List UInt8)} {p:(List UInt8)}:(strs (m++[p])).take (m.length+1)=strs (m++[p]):=by rw [strs_take,List.take_of_length_le (by simp)]
theorem strs_rowT {m:List (List UInt8)}:(∀c∈strs m,c.length=1)=True:=eq_true strs_row
theorem strs_oneT {m:List (List UInt8)}:(∀c∈strs m,∀d∈c,d.one=true)=True:=eq_true strs_one
attribute [go_sem] strs_length strs_snoc strs_all strs_all1 strs_rowT strs_oneT
theorem ints_all {m:List Int}:(ints m).take m.length=ints m:=by rw [ints_take,List.take_length]
theorem ints_all1 {m:List Int} {p:Int}:(ints (m++[p])).take (m.length+1)=ints (m++[p]):=by rw [ints_take,List.take_of_length_le (by simp)]
theorem ints_rowT {m:List Int}:(∀c∈ints m,c.length=1)=True:=eq_true ints_row
theorem ints_oneT {m:List Int}:(∀c∈ints m,∀d∈c,d.one=true)=True:=eq_true ints_one
attribute [go_sem] ints_length ints_snoc ints_all ints_all1 ints_rowT ints_oneT
theorem bls_all {m:List Bool}:(bls m).take m.length=bls m:=by rw [bls_take,List.take_length]
theorem bls_all1 {m:List Bool} {p:Bool}:(bls (m++[p])).take (m.length+1)=bls (m++[p]):=by rw [bls_take,List.take_of_length_le (by simp)]
theorem bls_rowT {m:List Bool}:(∀c∈bls m,c.length=1)=True:=eq_true bls_row
theorem bls_oneT {m:List Bool}:(∀c∈bls m,∀d∈c,d.one=true)=True:=eq_true bls_one
attribute [go_sem] bls_length bls_snoc bls_all bls_all1 bls_rowT bls_oneT
theorem bys_all {m:List UInt8}:(bys m).take m.length=bys m:=by rw [bys_take,List.take_length]
theorem bys_all1 {m:List UInt8} {p:UInt8}:(bys (m++[p])).take (m.length+1)=bys (m++[p]):=by rw [bys_take,List.take_of_length_le (by simp)]
theorem bys_rowT {m:List UInt8}:(∀c∈bys m,c.length=1)=True:=eq_true bys_row
theorem bys_oneT {m:List UInt8}:(∀c∈bys m,∀d∈c,d.one=true)=True:=eq_true bys_one
attribute [go_sem] bys_length bys_snoc bys_all bys_all1 bys_rowT bys_oneT
theorem forall_nilT {α:Type} {p:α→Prop}:(∀x∈([]:List α),p x)=True:=eq_true fun x h=>by cases h
attribute [go_sem] List.forall_mem_cons forall_nilT bys_set ints_set strs_set bls_set and_self
structure GPut where
 fPage:Int
 fText:List UInt8
 deriving DecidableEq,Inhabited
def GPut.cells (x:GPut):List D:=[.int .i64 x.fPage,.str x.fText]
def GPut.zero:GPut:=⟨0,[]⟩
def GPutS (l:List GPut):List (List D):=l.map GPut.cells
theorem GPut.cells_eq {p:GPut}:p.cells=[.int .i64 p.fPage,.str p.fText]:=rfl
theorem GPutS_length {l:List GPut}:(GPutS l).length=l.length:=by simp [GPutS]
theorem lget_GPutS {l:List GPut} {i:Nat} {p:GPut} (h:l[i]? =some p):lget (GPutS l) i=[.int .i64 p.fPage,.str p.fText]:=by simp [lget,GPutS,List.getD,h,GPut.cells]
theorem GPutS_take {m:List GPut} {n:Nat}:(GPutS m).take n=GPutS (m.take n):=by simp [GPutS]
theorem GPutS_row {m:List GPut}:∀c∈GPutS m,c.length=2:=fun c hc=>by simp only [GPutS,List.mem_map] at hc;obtain ⟨p,_,rfl⟩:=hc;rfl
theorem GPutS_one {m:List GPut}:∀c∈GPutS m,∀d∈c,d.one=true:=fun c hc d hd=>by
 simp only [GPutS,List.mem_map] at hc;obtain ⟨p,_,rfl⟩:=hc
 simp only [GPut.cells,List.mem_cons,List.not_mem_nil,or_false] at hd
 rcases hd with rfl|rfl<;>rfl
theorem GPutS_snoc2 {m:List GPut} {aPage:Int} {aText:List UInt8}:GPutS m++[[.int .i64 aPage,.str aText]]=GPutS (m++[⟨aPage,aText⟩]):=by simp [GPutS,GPut.cells]
theorem GPutS_set2 {m:List GPut} {i:Nat} {aPage:Int} {aText:List UInt8}:(GPutS m).set i [.int .i64 aPage,.str aText]=GPutS (m.set i ⟨aPage,aText⟩):=by simp [GPutS,List.map_set,GPut.cells]
theorem GPut_eta {p:GPut}:(⟨p.fPage,p.fText⟩:GPut)=p:=rfl
theorem GPutS_all {m:List GPut}:(GPutS m).take m.length=GPutS m:=by rw [GPutS_take,List.take_length]
theorem GPutS_all1 {m:List GPut} {p:GPut}:(GPutS (m++[p])).take (m.length+1)=GPutS (m++[p]):=by rw [GPutS_take,List.take_of_length_le (by simp)]
theorem GPutS_rowT {m:List GPut}:(∀c∈GPutS m,c.length=2)=True:=eq_true GPutS_row
theorem GPutS_oneT {m:List GPut}:(∀c∈GPutS m,∀d∈c,d.one=true)=True:=eq_true GPutS_one
attribute [go_sem] GPutS_length GPutS_snoc2 GPutS_set2 GPut_eta GPutS_all GPutS_all1 GPutS_rowT GPutS_oneT
theorem flat_GPutS {l:List GPut} {m:Nat}:FlatO (.arr m (GPutS l)):=by
 intro e he d hd
 simp only [GPutS,List.mem_map] at he
 obtain ⟨p,_,rfl⟩:=he
 simp only [GPut.cells,List.mem_cons,List.not_mem_nil,or_false] at hd
 rcases hd with rfl|rfl<;>first|exact .str _|exact .int _ _|exact .bool _
structure GDisk where
 fPages:List (List UInt8)
 fLate:List GPut
 deriving DecidableEq,Inhabited
def GDisk.cells (x:GDisk):List D:=[.sl (strs x.fPages),.sl (GPutS x.fLate)]
def GDisk.zero:GDisk:=⟨[],[]⟩
theorem GDisk.cells_eq {p:GDisk}:p.cells=[.sl (strs p.fPages),.sl (GPutS p.fLate)]:=rfl
theorem GDisk_eta {p:GDisk}:(⟨p.fPages,p.fLate⟩:GDisk)=p:=rfl
attribute [go_sem] GDisk_eta
structure GField where
 fName:List UInt8
 fKind:Int
 deriving DecidableEq,Inhabited
def GField.cells (x:GField):List D:=[.str x.fName,.int .i64 x.fKind]
def GField.zero:GField:=⟨[],0⟩
def GFieldS (l:List GField):List (List D):=l.map GField.cells
theorem GField.cells_eq {p:GField}:p.cells=[.str p.fName,.int .i64 p.fKind]:=rfl
theorem GFieldS_length {l:List GField}:(GFieldS l).length=l.length:=by simp [GFieldS]
theorem GFieldS_take {m:List GField} {n:Nat}:(GFieldS m).take n=GFieldS (m.take n):=by simp [GFieldS]
theorem GFieldS_row {m:List GField}:∀c∈GFieldS m,c.length=2:=fun c hc=>by simp only [GFieldS,List.mem_map] at hc;obtain ⟨p,_,rfl⟩:=hc;rfl
theorem GFieldS_one {m:List GField}:∀c∈GFieldS m,∀d∈c,d.one=true:=fun c hc d hd=>by
 simp only [GFieldS,List.mem_map] at hc;obtain ⟨p,_,rfl⟩:=hc
 simp only [GField.cells,List.mem_cons,List.not_mem_nil,or_false] at hd
 rcases hd with rfl|rfl<;>rfl
theorem GFieldS_snoc2 {m:List GField} {aName:List UInt8} {aKind:Int}:GFieldS m++[[.str aName,.int .i64 aKind]]=GFieldS (m++[⟨aName,aKind⟩]):=by simp [GFieldS,GField.cells]
theorem GFieldS_set2 {m:List GField} {i:Nat} {aName:List UInt8} {aKind:Int}:(GFieldS m).set i [.str aName,.int .i64 aKind]=GFieldS (m.set i ⟨aName,aKind⟩):=by simp [GFieldS,List.map_set,GField.cells]
theorem GField_eta {p:GField}:(⟨p.fName,p.fKind⟩:GField)=p:=rfl
theorem GFieldS_all {m:List GField}:(GFieldS m).take m.length=GFieldS m:=by rw [GFieldS_take,List.take_length]
theorem GFieldS_all1 {m:List GField} {p:GField}:(GFieldS (m++[p])).take (m.length+1)=GFieldS (m++[p]):=by rw [GFieldS_take,List.take_of_length_le (by simp)]
theorem GFieldS_rowT {m:List GField}:(∀c∈GFieldS m,c.length=2)=True:=eq_true GFieldS_row
theorem GFieldS_oneT {m:List GField}:(∀c∈GFieldS m,∀d∈c,d.one=true)=True:=eq_true GFieldS_one
attribute [go_sem] GFieldS_length GFieldS_snoc2 GFieldS_set2 GField_eta GFieldS_all GFieldS_all1 GFieldS_rowT GFieldS_oneT
theorem flat_GFieldS {l:List GField} {m:Nat}:FlatO (.arr m (GFieldS l)):=by
 intro e he d hd
 simp only [GFieldS,List.mem_map] at he
 obtain ⟨p,_,rfl⟩:=he
 simp only [GField.cells,List.mem_cons,List.not_mem_nil,or_false] at hd
 rcases hd with rfl|rfl<;>first|exact .str _|exact .int _ _|exact .bool _
structure GValue where
 fNum:Int
 fText:List UInt8
 deriving DecidableEq,Inhabited
def GValue.cells (x:GValue):List D:=[.int .i64 x.fNum,.str x.fText]
def GValue.zero:GValue:=⟨0,[]⟩
def GValueS (l:List GValue):List (List D):=l.map GValue.cells
theorem GValue.cells_eq {p:GValue}:p.cells=[.int .i64 p.fNum,.str p.fText]:=rfl
theorem GValueS_length {l:List GValue}:(GValueS l).length=l.length:=by simp [GValueS]
theorem GValueS_take {m:List GValue} {n:Nat}:(GValueS m).take n=GValueS (m.take n):=by simp [GValueS]
theorem GValueS_row {m:List GValue}:∀c∈GValueS m,c.length=2:=fun c hc=>by simp only [GValueS,List.mem_map] at hc;obtain ⟨p,_,rfl⟩:=hc;rfl
theorem GValueS_one {m:List GValue}:∀c∈GValueS m,∀d∈c,d.one=true:=fun c hc d hd=>by
 simp only [GValueS,List.mem_map] at hc;obtain ⟨p,_,rfl⟩:=hc
 simp only [GValue.cells,List.mem_cons,List.not_mem_nil,or_false] at hd
 rcases hd with rfl|rfl<;>rfl
theorem GValueS_snoc2 {m:List GValue} {aNum:Int} {aText:List UInt8}:GValueS m++[[.int .i64 aNum,.str aText]]=GValueS (m++[⟨aNum,aText⟩]):=by simp [GValueS,GValue.cells]
theorem GValueS_set2 {m:List GValue} {i:Nat} {aNum:Int} {aText:List UInt8}:(GValueS m).set i [.int .i64 aNum,.str aText]=GValueS (m.set i ⟨aNum,aText⟩):=by simp [GValueS,List.map_set,GValue.cells]
theorem GValue_eta {p:GValue}:(⟨p.fNum,p.fText⟩:GValue)=p:=rfl
theorem GValueS_all {m:List GValue}:(GValueS m).take m.length=GValueS m:=by rw [GValueS_take,List.take_length]
theorem GValueS_all1 {m:List GValue} {p:GValue}:(GValueS (m++[p])).take (m.length+1)=GValueS (m++[p]):=by rw [GValueS_take,List.take_of_length_le (by simp)]
theorem GValueS_rowT {m:List GValue}:(∀c∈GValueS m,c.length=2)=True:=eq_true GValueS_row
theorem GValueS_oneT {m:List GValue}:(∀c∈GValueS m,∀d∈c,d.one=true)=True:=eq_true GValueS_one
attribute [go_sem] GValueS_length GValueS_snoc2 GValueS_set2 GValue_eta GValueS_all GValueS_all1 GValueS_rowT GValueS_oneT
theorem flat_GValueS {l:List GValue} {m:Nat}:FlatO (.arr m (GValueS l)):=by
 intro e he d hd
 simp only [GValueS,List.mem_map] at he
 obtain ⟨p,_,rfl⟩:=he
 simp only [GValue.cells,List.mem_cons,List.not_mem_nil,or_false] at hd
 rcases hd with rfl|rfl<;>first|exact .str _|exact .int _ _|exact .bool _
structure GNode where
 fLeaf:Bool
 fKeys:List (List UInt8)
 fVals:List (List UInt8)
 fKids:List Int
 deriving DecidableEq,Inhabited
def GNode.cells (x:GNode):List D:=[.bool x.fLeaf,.sl (strs x.fKeys),.sl (strs x.fVals),.sl (ints x.fKids)]
def GNode.zero:GNode:=⟨false,[],[],[]⟩
def GNodeS (l:List GNode):List (List D):=l.map GNode.cells
theorem GNode.cells_eq {p:GNode}:p.cells=[.bool p.fLeaf,.sl (strs p.fKeys),.sl (strs p.fVals),.sl (ints p.fKids)]:=rfl
theorem GNodeS_length {l:List GNode}:(GNodeS l).length=l.length:=by simp [GNodeS]
theorem lget_GNodeS {l:List GNode} {i:Nat} {p:GNode} (h:l[i]? =some p):lget (GNodeS l) i=[.bool p.fLeaf,.sl (strs p.fKeys),.sl (strs p.fVals),.sl (ints p.fKids)]:=by simp [lget,GNodeS,List.getD,h,GNode.cells]
theorem GNodeS_take {m:List GNode} {n:Nat}:(GNodeS m).take n=GNodeS (m.take n):=by simp [GNodeS]
theorem GNodeS_row {m:List GNode}:∀c∈GNodeS m,c.length=4:=fun c hc=>by simp only [GNodeS,List.mem_map] at hc;obtain ⟨p,_,rfl⟩:=hc;rfl
theorem GNodeS_one {m:List GNode}:∀c∈GNodeS m,∀d∈c,d.one=true:=fun c hc d hd=>by
 simp only [GNodeS,List.mem_map] at hc;obtain ⟨p,_,rfl⟩:=hc
 simp only [GNode.cells,List.mem_cons,List.not_mem_nil,or_false] at hd
 rcases hd with rfl|rfl|rfl|rfl<;>rfl
theorem GNodeS_snoc2 {m:List GNode} {aLeaf:Bool} {aKeys:List (List UInt8)} {aVals:List (List UInt8)} {aKids:List Int}:GNodeS m++[[.bool aLeaf,.sl (strs aKeys),.sl (strs aVals),.sl (ints aKids)]]=GNodeS (m++[⟨aLeaf,aKeys,aVals,aKids⟩]):=by simp [GNodeS,GNode.cells]
theorem GNodeS_set2 {m:List GNode} {i:Nat} {aLeaf:Bool} {aKeys:List (List UInt8)} {aVals:List (List UInt8)} {aKids:List Int}:(GNodeS m).set i [.bool aLeaf,.sl (strs aKeys),.sl (strs aVals),.sl (ints aKids)]=GNodeS (m.set i ⟨aLeaf,aKeys,aVals,aKids⟩):=by simp [GNodeS,List.map_set,GNode.cells]
theorem GNode_eta {p:GNode}:(⟨p.fLeaf,p.fKeys,p.fVals,p.fKids⟩:GNode)=p:=rfl
theorem GNodeS_all {m:List GNode}:(GNodeS m).take m.length=GNodeS m:=by rw [GNodeS_take,List.take_length]
theorem GNodeS_all1 {m:List GNode} {p:GNode}:(GNodeS (m++[p])).take (m.length+1)=GNodeS (m++[p]):=by rw [GNodeS_take,List.take_of_length_le (by simp)]
theorem GNodeS_rowT {m:List GNode}:(∀c∈GNodeS m,c.length=4)=True:=eq_true GNodeS_row
theorem GNodeS_oneT {m:List GNode}:(∀c∈GNodeS m,∀d∈c,d.one=true)=True:=eq_true GNodeS_one
attribute [go_sem] GNodeS_length GNodeS_snoc2 GNodeS_set2 GNode_eta GNodeS_all GNodeS_all1 GNodeS_rowT GNodeS_oneT
structure GFree where
 fTx:Int
 fPages:List Int
 deriving DecidableEq,Inhabited
def GFree.cells (x:GFree):List D:=[.int .i64 x.fTx,.sl (ints x.fPages)]
def GFree.zero:GFree:=⟨0,[]⟩
def GFreeS (l:List GFree):List (List D):=l.map GFree.cells
theorem GFree.cells_eq {p:GFree}:p.cells=[.int .i64 p.fTx,.sl (ints p.fPages)]:=rfl
theorem GFreeS_length {l:List GFree}:(GFreeS l).length=l.length:=by simp [GFreeS]
theorem lget_GFreeS {l:List GFree} {i:Nat} {p:GFree} (h:l[i]? =some p):lget (GFreeS l) i=[.int .i64 p.fTx,.sl (ints p.fPages)]:=by simp [lget,GFreeS,List.getD,h,GFree.cells]
theorem GFreeS_take {m:List GFree} {n:Nat}:(GFreeS m).take n=GFreeS (m.take n):=by simp [GFreeS]
theorem GFreeS_row {m:List GFree}:∀c∈GFreeS m,c.length=2:=fun c hc=>by simp only [GFreeS,List.mem_map] at hc;obtain ⟨p,_,rfl⟩:=hc;rfl
theorem GFreeS_one {m:List GFree}:∀c∈GFreeS m,∀d∈c,d.one=true:=fun c hc d hd=>by
 simp only [GFreeS,List.mem_map] at hc;obtain ⟨p,_,rfl⟩:=hc
 simp only [GFree.cells,List.mem_cons,List.not_mem_nil,or_false] at hd
 rcases hd with rfl|rfl<;>rfl
theorem GFreeS_snoc2 {m:List GFree} {aTx:Int} {aPages:List Int}:GFreeS m++[[.int .i64 aTx,.sl (ints aPages)]]=GFreeS (m++[⟨aTx,aPages⟩]):=by simp [GFreeS,GFree.cells]
theorem GFreeS_set2 {m:List GFree} {i:Nat} {aTx:Int} {aPages:List Int}:(GFreeS m).set i [.int .i64 aTx,.sl (ints aPages)]=GFreeS (m.set i ⟨aTx,aPages⟩):=by simp [GFreeS,List.map_set,GFree.cells]
theorem GFree_eta {p:GFree}:(⟨p.fTx,p.fPages⟩:GFree)=p:=rfl
theorem GFreeS_all {m:List GFree}:(GFreeS m).take m.length=GFreeS m:=by rw [GFreeS_take,List.take_length]
theorem GFreeS_all1 {m:List GFree} {p:GFree}:(GFreeS (m++[p])).take (m.length+1)=GFreeS (m++[p]):=by rw [GFreeS_take,List.take_of_length_le (by simp)]
theorem GFreeS_rowT {m:List GFree}:(∀c∈GFreeS m,c.length=2)=True:=eq_true GFreeS_row
theorem GFreeS_oneT {m:List GFree}:(∀c∈GFreeS m,∀d∈c,d.one=true)=True:=eq_true GFreeS_one
attribute [go_sem] GFreeS_length GFreeS_snoc2 GFreeS_set2 GFree_eta GFreeS_all GFreeS_all1 GFreeS_rowT GFreeS_oneT
def smallGFree (x:GFree):Prop:=x.fPages.length≤1048576
structure GMeta where
 fTx:Int
 fRoot:Int
 fNext:Int
 fFrees:List GFree
 deriving DecidableEq,Inhabited
def GMeta.cells (x:GMeta):List D:=[.int .i64 x.fTx,.int .i64 x.fRoot,.int .i64 x.fNext,.sl (GFreeS x.fFrees)]
def GMeta.zero:GMeta:=⟨0,0,0,[]⟩
theorem GMeta.cells_eq {p:GMeta}:p.cells=[.int .i64 p.fTx,.int .i64 p.fRoot,.int .i64 p.fNext,.sl (GFreeS p.fFrees)]:=rfl
theorem GMeta_eta {p:GMeta}:(⟨p.fTx,p.fRoot,p.fNext,p.fFrees⟩:GMeta)=p:=rfl
attribute [go_sem] GMeta_eta
def smallGMeta (x:GMeta):Prop:=smallSl smallGFree x.fFrees
structure GWork where
 fDisk:GDisk
 fNext:Int
 fUsable:List Int
 fGone:List Int
 fFresh:List Int
 deriving DecidableEq,Inhabited
def GWork.cells (x:GWork):List D:=[.sl (strs x.fDisk.fPages),.sl (GPutS x.fDisk.fLate),.int .i64 x.fNext,.sl (ints x.fUsable),.sl (ints x.fGone),.sl (ints x.fFresh)]
def GWork.zero:GWork:=⟨GDisk.zero,0,[],[],[]⟩
theorem GWork.cells_eq {p:GWork}:p.cells=[.sl (strs p.fDisk.fPages),.sl (GPutS p.fDisk.fLate),.int .i64 p.fNext,.sl (ints p.fUsable),.sl (ints p.fGone),.sl (ints p.fFresh)]:=rfl
theorem GWork_eta {p:GWork}:(⟨⟨p.fDisk.fPages,p.fDisk.fLate⟩,p.fNext,p.fUsable,p.fGone,p.fFresh⟩:GWork)=p:=rfl
attribute [go_sem] GWork_eta
structure GTxn where
 fBase:GMeta
 fWork:GWork
 fRoot:Int
 deriving DecidableEq,Inhabited
def GTxn.cells (x:GTxn):List D:=[.int .i64 x.fBase.fTx,.int .i64 x.fBase.fRoot,.int .i64 x.fBase.fNext,.sl (GFreeS x.fBase.fFrees),.sl (strs x.fWork.fDisk.fPages),.sl (GPutS x.fWork.fDisk.fLate),.int .i64 x.fWork.fNext,.sl (ints x.fWork.fUsable),.sl (ints x.fWork.fGone),.sl (ints x.fWork.fFresh),.int .i64 x.fRoot]
def GTxn.zero:GTxn:=⟨GMeta.zero,GWork.zero,0⟩
theorem GTxn.cells_eq {p:GTxn}:p.cells=[.int .i64 p.fBase.fTx,.int .i64 p.fBase.fRoot,.int .i64 p.fBase.fNext,.sl (GFreeS p.fBase.fFrees),.sl (strs p.fWork.fDisk.fPages),.sl (GPutS p.fWork.fDisk.fLate),.int .i64 p.fWork.fNext,.sl (ints p.fWork.fUsable),.sl (ints p.fWork.fGone),.sl (ints p.fWork.fFresh),.int .i64 p.fRoot]:=rfl
theorem GTxn_eta {p:GTxn}:(⟨⟨p.fBase.fTx,p.fBase.fRoot,p.fBase.fNext,p.fBase.fFrees⟩,⟨⟨p.fWork.fDisk.fPages,p.fWork.fDisk.fLate⟩,p.fWork.fNext,p.fWork.fUsable,p.fWork.fGone,p.fWork.fFresh⟩,p.fRoot⟩:GTxn)=p:=rfl
attribute [go_sem] GTxn_eta
structure GReader where
 fId:Int
 fMeta:GMeta
 deriving DecidableEq,Inhabited
def GReader.cells (x:GReader):List D:=[.int .i64 x.fId,.int .i64 x.fMeta.fTx,.int .i64 x.fMeta.fRoot,.int .i64 x.fMeta.fNext,.sl (GFreeS x.fMeta.fFrees)]
def GReader.zero:GReader:=⟨0,GMeta.zero⟩
def GReaderS (l:List GReader):List (List D):=l.map GReader.cells
theorem GReader.cells_eq {p:GReader}:p.cells=[.int .i64 p.fId,.int .i64 p.fMeta.fTx,.int .i64 p.fMeta.fRoot,.int .i64 p.fMeta.fNext,.sl (GFreeS p.fMeta.fFrees)]:=rfl
theorem GReaderS_length {l:List GReader}:(GReaderS l).length=l.length:=by simp [GReaderS]
theorem lget_GReaderS {l:List GReader} {i:Nat} {p:GReader} (h:l[i]? =some p):lget (GReaderS l) i=[.int .i64 p.fId,.int .i64 p.fMeta.fTx,.int .i64 p.fMeta.fRoot,.int .i64 p.fMeta.fNext,.sl (GFreeS p.fMeta.fFrees)]:=by simp [lget,GReaderS,List.getD,h,GReader.cells]
theorem GReaderS_app {m l:List GReader}:GReaderS m++GReaderS l=GReaderS (m++l):=by simp [GReaderS]
theorem GReaderS_take {m:List GReader} {n:Nat}:(GReaderS m).take n=GReaderS (m.take n):=by simp [GReaderS]
theorem GReaderS_drop {m:List GReader} {n:Nat}:(GReaderS m).drop n=GReaderS (m.drop n):=by simp [GReaderS]
theorem GReaderS_row {m:List GReader}:∀c∈GReaderS m,c.length=5:=fun c hc=>by simp only [GReaderS,List.mem_map] at hc;obtain ⟨p,_,rfl⟩:=hc;rfl
theorem GReaderS_one {m:List GReader}:∀c∈GReaderS m,∀d∈c,d.one=true:=fun c hc d hd=>by
 simp only [GReaderS,List.mem_map] at hc;obtain ⟨p,_,rfl⟩:=hc
 simp only [GReader.cells,List.mem_cons,List.not_mem_nil,or_false] at hd
 rcases hd with rfl|rfl|rfl|rfl|rfl<;>rfl
theorem GReaderS_snoc2 {m:List GReader} {aId:Int} {aMetaTx:Int} {aMetaRoot:Int} {aMetaNext:Int} {aMetaFrees:List GFree}:GReaderS m++[[.int .i64 aId,.int .i64 aMetaTx,.int .i64 aMetaRoot,.int .i64 aMetaNext,.sl (GFreeS aMetaFrees)]]=GReaderS (m++[⟨aId,⟨aMetaTx,aMetaRoot,aMetaNext,aMetaFrees⟩⟩]):=by simp [GReaderS,GReader.cells]
theorem GReaderS_set2 {m:List GReader} {i:Nat} {aId:Int} {aMetaTx:Int} {aMetaRoot:Int} {aMetaNext:Int} {aMetaFrees:List GFree}:(GReaderS m).set i [.int .i64 aId,.int .i64 aMetaTx,.int .i64 aMetaRoot,.int .i64 aMetaNext,.sl (GFreeS aMetaFrees)]=GReaderS (m.set i ⟨aId,⟨aMetaTx,aMetaRoot,aMetaNext,aMetaFrees⟩⟩):=by simp [GReaderS,List.map_set,GReader.cells]
theorem GReader_eta {p:GReader}:(⟨p.fId,⟨p.fMeta.fTx,p.fMeta.fRoot,p.fMeta.fNext,p.fMeta.fFrees⟩⟩:GReader)=p:=rfl
theorem GReaderS_all {m:List GReader}:(GReaderS m).take m.length=GReaderS m:=by rw [GReaderS_take,List.take_length]
theorem GReaderS_all1 {m:List GReader} {p:GReader}:(GReaderS (m++[p])).take (m.length+1)=GReaderS (m++[p]):=by rw [GReaderS_take,List.take_of_length_le (by simp)]
theorem GReaderS_rowT {m:List GReader}:(∀c∈GReaderS m,c.length=5)=True:=eq_true GReaderS_row
theorem GReaderS_oneT {m:List GReader}:(∀c∈GReaderS m,∀d∈c,d.one=true)=True:=eq_true GReaderS_one
attribute [go_sem] GReaderS_length GReaderS_snoc2 GReaderS_set2 GReader_eta GReaderS_all GReaderS_all1 GReaderS_rowT GReaderS_oneT
structure GStore where
 fDisk:GDisk
 fMeta:GMeta
 fReaders:List GReader
 fTxn:GTxn
 fWriting:Bool
 fFailed:Bool
 deriving DecidableEq,Inhabited
def GStore.cells (x:GStore):List D:=[.sl (strs x.fDisk.fPages),.sl (GPutS x.fDisk.fLate),.int .i64 x.fMeta.fTx,.int .i64 x.fMeta.fRoot,.int .i64 x.fMeta.fNext,.sl (GFreeS x.fMeta.fFrees),.sl (GReaderS x.fReaders),.int .i64 x.fTxn.fBase.fTx,.int .i64 x.fTxn.fBase.fRoot,.int .i64 x.fTxn.fBase.fNext,.sl (GFreeS x.fTxn.fBase.fFrees),.sl (strs x.fTxn.fWork.fDisk.fPages),.sl (GPutS x.fTxn.fWork.fDisk.fLate),.int .i64 x.fTxn.fWork.fNext,.sl (ints x.fTxn.fWork.fUsable),.sl (ints x.fTxn.fWork.fGone),.sl (ints x.fTxn.fWork.fFresh),.int .i64 x.fTxn.fRoot,.bool x.fWriting,.bool x.fFailed]
def GStore.zero:GStore:=⟨GDisk.zero,GMeta.zero,[],GTxn.zero,false,false⟩
theorem GStore.cells_eq {p:GStore}:p.cells=[.sl (strs p.fDisk.fPages),.sl (GPutS p.fDisk.fLate),.int .i64 p.fMeta.fTx,.int .i64 p.fMeta.fRoot,.int .i64 p.fMeta.fNext,.sl (GFreeS p.fMeta.fFrees),.sl (GReaderS p.fReaders),.int .i64 p.fTxn.fBase.fTx,.int .i64 p.fTxn.fBase.fRoot,.int .i64 p.fTxn.fBase.fNext,.sl (GFreeS p.fTxn.fBase.fFrees),.sl (strs p.fTxn.fWork.fDisk.fPages),.sl (GPutS p.fTxn.fWork.fDisk.fLate),.int .i64 p.fTxn.fWork.fNext,.sl (ints p.fTxn.fWork.fUsable),.sl (ints p.fTxn.fWork.fGone),.sl (ints p.fTxn.fWork.fFresh),.int .i64 p.fTxn.fRoot,.bool p.fWriting,.bool p.fFailed]:=rfl
theorem GStore_eta {p:GStore}:(⟨⟨p.fDisk.fPages,p.fDisk.fLate⟩,⟨p.fMeta.fTx,p.fMeta.fRoot,p.fMeta.fNext,p.fMeta.fFrees⟩,p.fReaders,⟨⟨p.fTxn.fBase.fTx,p.fTxn.fBase.fRoot,p.fTxn.fBase.fNext,p.fTxn.fBase.fFrees⟩,⟨⟨p.fTxn.fWork.fDisk.fPages,p.fTxn.fWork.fDisk.fLate⟩,p.fTxn.fWork.fNext,p.fTxn.fWork.fUsable,p.fTxn.fWork.fGone,p.fTxn.fWork.fFresh⟩,p.fTxn.fRoot⟩,p.fWriting,p.fFailed⟩:GStore)=p:=rfl
attribute [go_sem] GStore_eta
structure GPair where
 fKey:List UInt8
 fVal:List UInt8
 deriving DecidableEq,Inhabited
def GPair.cells (x:GPair):List D:=[.str x.fKey,.str x.fVal]
def GPair.zero:GPair:=⟨[],[]⟩
def GPairS (l:List GPair):List (List D):=l.map GPair.cells
theorem GPair.cells_eq {p:GPair}:p.cells=[.str p.fKey,.str p.fVal]:=rfl
theorem GPairS_length {l:List GPair}:(GPairS l).length=l.length:=by simp [GPairS]
theorem lget_GPairS {l:List GPair} {i:Nat} {p:GPair} (h:l[i]? =some p):lget (GPairS l) i=[.str p.fKey,.str p.fVal]:=by simp [lget,GPairS,List.getD,h,GPair.cells]
theorem GPairS_take {m:List GPair} {n:Nat}:(GPairS m).take n=GPairS (m.take n):=by simp [GPairS]
theorem GPairS_row {m:List GPair}:∀c∈GPairS m,c.length=2:=fun c hc=>by simp only [GPairS,List.mem_map] at hc;obtain ⟨p,_,rfl⟩:=hc;rfl
theorem GPairS_one {m:List GPair}:∀c∈GPairS m,∀d∈c,d.one=true:=fun c hc d hd=>by
 simp only [GPairS,List.mem_map] at hc;obtain ⟨p,_,rfl⟩:=hc
 simp only [GPair.cells,List.mem_cons,List.not_mem_nil,or_false] at hd
 rcases hd with rfl|rfl<;>rfl
theorem GPairS_snoc2 {m:List GPair} {aKey:List UInt8} {aVal:List UInt8}:GPairS m++[[.str aKey,.str aVal]]=GPairS (m++[⟨aKey,aVal⟩]):=by simp [GPairS,GPair.cells]
theorem GPairS_set2 {m:List GPair} {i:Nat} {aKey:List UInt8} {aVal:List UInt8}:(GPairS m).set i [.str aKey,.str aVal]=GPairS (m.set i ⟨aKey,aVal⟩):=by simp [GPairS,List.map_set,GPair.cells]
theorem GPair_eta {p:GPair}:(⟨p.fKey,p.fVal⟩:GPair)=p:=rfl
theorem GPairS_all {m:List GPair}:(GPairS m).take m.length=GPairS m:=by rw [GPairS_take,List.take_length]
theorem GPairS_all1 {m:List GPair} {p:GPair}:(GPairS (m++[p])).take (m.length+1)=GPairS (m++[p]):=by rw [GPairS_take,List.take_of_length_le (by simp)]
theorem GPairS_rowT {m:List GPair}:(∀c∈GPairS m,c.length=2)=True:=eq_true GPairS_row
theorem GPairS_oneT {m:List GPair}:(∀c∈GPairS m,∀d∈c,d.one=true)=True:=eq_true GPairS_one
attribute [go_sem] GPairS_length GPairS_snoc2 GPairS_set2 GPair_eta GPairS_all GPairS_all1 GPairS_rowT GPairS_oneT
theorem flat_GPairS {l:List GPair} {m:Nat}:FlatO (.arr m (GPairS l)):=by
 intro e he d hd
 simp only [GPairS,List.mem_map] at he
 obtain ⟨p,_,rfl⟩:=he
 simp only [GPair.cells,List.mem_cons,List.not_mem_nil,or_false] at hd
 rcases hd with rfl|rfl<;>first|exact .str _|exact .int _ _|exact .bool _
structure GEvent where
 fKind:Int
 fId:Int
 fKey:List UInt8
 fVal:List UInt8
 fStage:Int
 fLeft:List Bool
 fTorn:Int
 deriving DecidableEq,Inhabited
def GEvent.cells (x:GEvent):List D:=[.int .i64 x.fKind,.int .i64 x.fId,.str x.fKey,.str x.fVal,.int .i64 x.fStage,.sl (bls x.fLeft),.int .i64 x.fTorn]
def GEvent.zero:GEvent:=⟨0,0,[],[],0,[],0⟩
theorem GEvent.cells_eq {p:GEvent}:p.cells=[.int .i64 p.fKind,.int .i64 p.fId,.str p.fKey,.str p.fVal,.int .i64 p.fStage,.sl (bls p.fLeft),.int .i64 p.fTorn]:=rfl
theorem GEvent_eta {p:GEvent}:(⟨p.fKind,p.fId,p.fKey,p.fVal,p.fStage,p.fLeft,p.fTorn⟩:GEvent)=p:=rfl
attribute [go_sem] GEvent_eta
structure GSeen where
 fId:Int
 fPairs:List GPair
 deriving DecidableEq,Inhabited
def GSeen.cells (x:GSeen):List D:=[.int .i64 x.fId,.sl (GPairS x.fPairs)]
def GSeen.zero:GSeen:=⟨0,[]⟩
def GSeenS (l:List GSeen):List (List D):=l.map GSeen.cells
theorem GSeen.cells_eq {p:GSeen}:p.cells=[.int .i64 p.fId,.sl (GPairS p.fPairs)]:=rfl
theorem GSeenS_length {l:List GSeen}:(GSeenS l).length=l.length:=by simp [GSeenS]
theorem lget_GSeenS {l:List GSeen} {i:Nat} {p:GSeen} (h:l[i]? =some p):lget (GSeenS l) i=[.int .i64 p.fId,.sl (GPairS p.fPairs)]:=by simp [lget,GSeenS,List.getD,h,GSeen.cells]
theorem GSeenS_take {m:List GSeen} {n:Nat}:(GSeenS m).take n=GSeenS (m.take n):=by simp [GSeenS]
theorem GSeenS_row {m:List GSeen}:∀c∈GSeenS m,c.length=2:=fun c hc=>by simp only [GSeenS,List.mem_map] at hc;obtain ⟨p,_,rfl⟩:=hc;rfl
theorem GSeenS_one {m:List GSeen}:∀c∈GSeenS m,∀d∈c,d.one=true:=fun c hc d hd=>by
 simp only [GSeenS,List.mem_map] at hc;obtain ⟨p,_,rfl⟩:=hc
 simp only [GSeen.cells,List.mem_cons,List.not_mem_nil,or_false] at hd
 rcases hd with rfl|rfl<;>rfl
theorem GSeenS_snoc2 {m:List GSeen} {aId:Int} {aPairs:List GPair}:GSeenS m++[[.int .i64 aId,.sl (GPairS aPairs)]]=GSeenS (m++[⟨aId,aPairs⟩]):=by simp [GSeenS,GSeen.cells]
theorem GSeenS_set2 {m:List GSeen} {i:Nat} {aId:Int} {aPairs:List GPair}:(GSeenS m).set i [.int .i64 aId,.sl (GPairS aPairs)]=GSeenS (m.set i ⟨aId,aPairs⟩):=by simp [GSeenS,List.map_set,GSeen.cells]
theorem GSeen_eta {p:GSeen}:(⟨p.fId,p.fPairs⟩:GSeen)=p:=rfl
theorem GSeenS_all {m:List GSeen}:(GSeenS m).take m.length=GSeenS m:=by rw [GSeenS_take,List.take_length]
theorem GSeenS_all1 {m:List GSeen} {p:GSeen}:(GSeenS (m++[p])).take (m.length+1)=GSeenS (m++[p]):=by rw [GSeenS_take,List.take_of_length_le (by simp)]
theorem GSeenS_rowT {m:List GSeen}:(∀c∈GSeenS m,c.length=2)=True:=eq_true GSeenS_row
theorem GSeenS_oneT {m:List GSeen}:(∀c∈GSeenS m,∀d∈c,d.one=true)=True:=eq_true GSeenS_one
attribute [go_sem] GSeenS_length GSeenS_snoc2 GSeenS_set2 GSeen_eta GSeenS_all GSeenS_all1 GSeenS_rowT GSeenS_oneT
structure GWorld where
 fStore:GStore
 fModel:List GPair
 fNext:List GPair
 fSeens:List GSeen
 fCodes:List Int
 fTold:List (List UInt8)
 deriving DecidableEq,Inhabited
def GWorld.cells (x:GWorld):List D:=[.sl (strs x.fStore.fDisk.fPages),.sl (GPutS x.fStore.fDisk.fLate),.int .i64 x.fStore.fMeta.fTx,.int .i64 x.fStore.fMeta.fRoot,.int .i64 x.fStore.fMeta.fNext,.sl (GFreeS x.fStore.fMeta.fFrees),.sl (GReaderS x.fStore.fReaders),.int .i64 x.fStore.fTxn.fBase.fTx,.int .i64 x.fStore.fTxn.fBase.fRoot,.int .i64 x.fStore.fTxn.fBase.fNext,.sl (GFreeS x.fStore.fTxn.fBase.fFrees),.sl (strs x.fStore.fTxn.fWork.fDisk.fPages),.sl (GPutS x.fStore.fTxn.fWork.fDisk.fLate),.int .i64 x.fStore.fTxn.fWork.fNext,.sl (ints x.fStore.fTxn.fWork.fUsable),.sl (ints x.fStore.fTxn.fWork.fGone),.sl (ints x.fStore.fTxn.fWork.fFresh),.int .i64 x.fStore.fTxn.fRoot,.bool x.fStore.fWriting,.bool x.fStore.fFailed,.sl (GPairS x.fModel),.sl (GPairS x.fNext),.sl (GSeenS x.fSeens),.sl (ints x.fCodes),.sl (strs x.fTold)]
def GWorld.zero:GWorld:=⟨GStore.zero,[],[],[],[],[]⟩
theorem GWorld.cells_eq {p:GWorld}:p.cells=[.sl (strs p.fStore.fDisk.fPages),.sl (GPutS p.fStore.fDisk.fLate),.int .i64 p.fStore.fMeta.fTx,.int .i64 p.fStore.fMeta.fRoot,.int .i64 p.fStore.fMeta.fNext,.sl (GFreeS p.fStore.fMeta.fFrees),.sl (GReaderS p.fStore.fReaders),.int .i64 p.fStore.fTxn.fBase.fTx,.int .i64 p.fStore.fTxn.fBase.fRoot,.int .i64 p.fStore.fTxn.fBase.fNext,.sl (GFreeS p.fStore.fTxn.fBase.fFrees),.sl (strs p.fStore.fTxn.fWork.fDisk.fPages),.sl (GPutS p.fStore.fTxn.fWork.fDisk.fLate),.int .i64 p.fStore.fTxn.fWork.fNext,.sl (ints p.fStore.fTxn.fWork.fUsable),.sl (ints p.fStore.fTxn.fWork.fGone),.sl (ints p.fStore.fTxn.fWork.fFresh),.int .i64 p.fStore.fTxn.fRoot,.bool p.fStore.fWriting,.bool p.fStore.fFailed,.sl (GPairS p.fModel),.sl (GPairS p.fNext),.sl (GSeenS p.fSeens),.sl (ints p.fCodes),.sl (strs p.fTold)]:=rfl
theorem GWorld_eta {p:GWorld}:(⟨⟨⟨p.fStore.fDisk.fPages,p.fStore.fDisk.fLate⟩,⟨p.fStore.fMeta.fTx,p.fStore.fMeta.fRoot,p.fStore.fMeta.fNext,p.fStore.fMeta.fFrees⟩,p.fStore.fReaders,⟨⟨p.fStore.fTxn.fBase.fTx,p.fStore.fTxn.fBase.fRoot,p.fStore.fTxn.fBase.fNext,p.fStore.fTxn.fBase.fFrees⟩,⟨⟨p.fStore.fTxn.fWork.fDisk.fPages,p.fStore.fTxn.fWork.fDisk.fLate⟩,p.fStore.fTxn.fWork.fNext,p.fStore.fTxn.fWork.fUsable,p.fStore.fTxn.fWork.fGone,p.fStore.fTxn.fWork.fFresh⟩,p.fStore.fTxn.fRoot⟩,p.fStore.fWriting,p.fStore.fFailed⟩,p.fModel,p.fNext,p.fSeens,p.fCodes,p.fTold⟩:GWorld)=p:=rfl
attribute [go_sem] GWorld_eta
end Go.Rx
namespace Go.Rx
open Go
theorem bLess_irr {a:List UInt8}:bLess a a=false:=by
 induction a with
 |nil=>rfl
 |cons x xs ih=>simp [bLess,Op.bytesLess] at*;exact ih
theorem bLess_nil {b:List UInt8}:bLess [] b=true↔b≠ []:=by cases b<;>simp [bLess,Op.bytesLess]
theorem bLess_cons {a b:UInt8} {xs ys:List UInt8}:bLess (a::xs) (b::ys)=true↔a<b∨a=b∧bLess xs ys=true:=by
 unfold bLess
 simp [Op.bytesLess]
 try (constructor<;>intro h<;>omega)
theorem bLess_trans:∀ {a b c:List UInt8},bLess a b=true→bLess b c=true→bLess a c=true
 |[],b,[],_,h=>by cases b<;>simp [bLess,Op.bytesLess] at h
 |[],_,_::_,_,_=>bLess_nil.2 (by simp)
 |_::_,[],_,h,_=>by simp [bLess,Op.bytesLess] at h
 |_::_,_::_,[],_,h=>by simp [bLess,Op.bytesLess] at h
 |a::xs,b::ys,c::zs,h1,h2=>by
  rw [bLess_cons] at h1 h2 ⊢
  rcases h1 with h1|⟨rfl,h1⟩
  ·rcases h2 with h2|⟨rfl,h2⟩
   ·exact .inl (UInt8.lt_trans h1 h2)
   ·exact .inl h1
  ·rcases h2 with h2|⟨rfl,h2⟩
   ·exact .inl h2
   ·exact .inr ⟨rfl,bLess_trans h1 h2⟩
theorem bLess_tri {a b:List UInt8} (h1:bLess a b=false) (h2:bLess b a=false):a=b:=by
 have:=bLess_total a b
 rw [h1,h2] at this
 simpa using this
theorem bLess_ne {a b:List UInt8} (h:bLess a b=true):a≠b:=fun e=>by rw [e,bLess_irr] at h;cases h
end Go.Rx
namespace Go.Rx
open Go Go.RowKit Go.ChangeShapes Go.WideShapes Go.ChangeAt
section
variable {H:Type} {enc:TypeId×Value→H} {P:Program}
theorem trodAll_below (hl:laidOutB P=true) {W W':World} (hb:Below W.heap.size W W'):∀ {ts:List TypeId} {vs:List Value} {ds:List (DataW H)} {ps:List MemPlace},
  (∀t∈ts,P.readableRec t=true∧t<P.types.size)→DataW.TrodAll enc P W 0 (fun _=>true) true ts vs ds ps→(∀x∈ps,x.block<W.heap.size)→
  DataW.TrodAll enc P W' 0 (fun b=>decide (b<W.heap.size)) true ts vs ds ps
 |[],[],[],ps,_,h,_=>h
 |[],[],_::_,_,_,h,_=>h.elim
 |[],_::_,_,_,_,h,_=>h.elim
 |_::_,[],_,_,_,h,_=>h.elim
 |_::_,_::_,[],_,_,h,_=>h.elim
 |t::ts,v::vs,d::ds,ps,ht,⟨p,q,h1,h2,e⟩,hlt=>
  ⟨p,q,Below.trod hl (ht t (by simp)).1 (ht t (by simp)).2 h1 hb (fun x hx=>hlt x (by rw [e];simp [hx])),
   trodAll_below hl hb (fun t' h'=>ht t' (by simp [h'])) h2 (fun x hx=>hlt x (by rw [e];simp [hx])),e⟩
theorem law_calls {n:FuncId} {f:Func} {s:ChangeSpec} {W:World} {args:Array Value} {ds:List (DataW H)} {before:List MemPlace} {t:TypeId} {xs:List D} {outs:List V}
  (hl:laidOutB P=true) (hts:∀t∈f.params.toList,P.readableRec t=true∧t<P.types.size) (hres:f.resultTypes= #[t]) (hbool:P.underlying t=some .bool) (hvars:s.vars=[])
  (hr:(s.fn H ds).results=[.lit (.bool true)]) (ha:(s.fn H ds).args=ds) (hv:(s.fn H ds).vars=[])
  (hW:DataW.Whole enc P f.params.toList s.vars false W args.toList ds [] before)
  (hc:CallOK P n (xs.map .d) [] outs (.d (.bool true)) [])
  (hlen:xs.length=args.toList.length) (hx:∀(i:Nat) x v,xs[i]? =some x→args.toList[i]? =some v→DRel W (fun b=>b<W.heap.size) x v):
  Calls P n args W fun e W'=>∃v,e= .returned v∧s.post enc P f false true false false W args v W':=by
 have h0:=hc.2 W args.toList (fun _=>none) (fun b=>b<W.heap.size)
  ⟨fun n n' b h=>absurd rfl h,fun n b h=>absurd rfl h,fun n b h=>absurd rfl h,fun b h=>h,fun n o h=>by cases h⟩ (by simpa using hlen) (fun i x v h1 h2=>by
   rw [List.getElem?_map] at h1
   cases hxi:xs[i]? with
   |none=>rw [hxi] at h1;cases h1
   |some y=>rw [hxi] at h1;cases h1;exact .d (hx i y v hxi h2))
 have h0':Calls P n args W _:=h0
 refine h0'.mono fun e W' ⟨v,lam',ok',he,hf,_,hrel,_⟩=>?_
 cases hrel with|d hd=>
 cases hd with|bool=>
 have hb:Below W.heap.size W W':=⟨hf.os,hf.tape,hf.output,hf.size,fun k hk=>hf.block k hk (fun ⟨n,h1,_⟩=>h1 rfl)⟩
 refine ⟨_,he,ds,[],before,[],before,[],hW,?_,?_,?_,hb.frame _,fun h=>by cases h⟩
 ·rw [hres,List.append_nil,hr]
  exact trodAll_mk1 (shut_bool hbool true)
 ·obtain ⟨p,q,h1,h2,rfl,_⟩:=hW
  rw [hvars] at h2
  obtain ⟨_,rfl⟩:=trodVars_none h2
  rw [List.append_nil,ha,List.append_nil]
  refine trodAll_below hl hb hts h1 fun x hx=>?_
  exact DataW.TrodAll.lt h1 x hx
 ·rw [hvars,List.append_nil,hv];rfl
def Opn (P:Program) (enc:TypeId×Value→H) (t:TypeId) {α:Type} (cells:α→List D) (ok:α→Prop):Prop:=
 ∀(W:World) (n:Nat) (vs:List Value) (y:DataW H×List MemPlace),DataW.trod enc P W 0 (fun _=>true) true n t vs=some y→
  ∃a,Rel2 (DRel W (fun b=>b<W.heap.size)) (cells a) vs∧ok a
theorem rel2_one {W:World} {ok:Nat→Prop} {d:D} {v:Value} (h:DRel W ok d v):Rel2 (DRel W ok) [d] [v]:=Rel2.cons h (Rel2.nil _)
theorem opn_byte {t:TypeId} (ht:P.underlying t=some (.int .u8)):Opn P enc t byteCell (fun _=>True):=fun W n vs y h=>by
 obtain ⟨k,rfl,_,hw⟩:=DataW.trod_int ht h
 simp only [Lit.wf,Bool.and_eq_true,decide_eq_true_eq] at hw
 have h1:IntKind.u8.min=0:=rfl
 have h2:IntKind.u8.max=255:=rfl
 rw [h1,h2] at hw
 have:k=((UInt8.ofNat k.toNat).toNat:Int):=by simp;omega
 refine ⟨UInt8.ofNat k.toNat,?_,trivial⟩
 unfold byteCell
 rw [←this]
 exact rel2_one (.int _ _)
theorem opn_slice {t e:TypeId} {m:Nat} {α:Type} [Inhabited α] {cells:α→List D} {ok:α→Prop} (ht:P.underlying t=some (.slice e)) (ce:P.cellsOf e=m) (hm:0<m) (hcl:∀a,(cells a).length=m) (ho:Opn P enc e cells ok):
  Opn P enc t (fun l:List α=> [.sl (l.map cells)]) (fun l=>l.length≤LEN∧∀a∈l,ok a):=fun W n vs y h=>by
 rcases Go.Deep.open_slice ht h with ⟨rfl,_⟩|⟨a,len,cap,k,n',D0,Pl,rfl,_,hl,hmx,hk,_,hx⟩
 ·exact ⟨[],rel2_one (.sl0 none 0),by simp,by simp⟩
 have hmax:maxLen=LEN:=rfl
 simp only [if_true] at hk
 subst hk
 by_cases hlen:len=0
 ·subst hlen
  exact ⟨[],rel2_one (.sl0 _ _),by simp,by simp⟩
 have each:∀i,i<k→∃q:α×List Value,W.cells? 0 (a.add (i*m)) m=some q.2∧Rel2 (DRel W (fun b=>b<W.heap.size)) (cells q.1) q.2∧ok q.1:=fun i hi=>by
  obtain ⟨cs',g1,g2⟩:=hx i hi
  rw [ce] at g1
  obtain ⟨b,hb,hob⟩:=ho W n' cs' _ g2
  exact ⟨(b,cs'),g1,hb,hob⟩
 obtain ⟨q,hq⟩:=Go.Deep.choose_lt each
 obtain ⟨b,o,sp⟩:=a
 have hfirst:W.cell? ⟨b,o,sp⟩=(q 0).2[0]? :=by
  have:=(World.cells?_some (hq 0 (by omega)).1).2.2 0 hm
  rw [Nat.zero_mul] at this
  simpa [Addr.add] using this
 have hq0:=(World.cells?_some (hq 0 (by omega)).1).2.1
 have hsome:∃v,(q 0).2[0]? =some v:=⟨(q 0).2[0]'(by omega),by simp⟩
 obtain ⟨v0,hv0⟩:=hsome
 rw [hv0] at hfirst
 have hsp:sp=none:=by
  unfold World.cell? at hfirst
  split at hfirst
  ·cases sp with
   |none=>rfl
   |some x=>simp at hfirst
  ·cases hfirst
 subst hsp
 have hblt:b<W.heap.size:=by
  rcases Nat.lt_or_ge b W.heap.size with h|h
  ·exact h
  ·simp [World.cell?,h] at hfirst
 let xs:List α:=(List.range len).map fun i=>(q i).1
 have hxl:xs.length=len:=by simp [xs]
 have hget:∀(i:Nat) e,(xs.map cells)[i]? =some e→i<len∧e=cells (q i).1:=fun i e hi=>by
  simp only [xs,List.map_map,List.getElem?_map] at hi
  rcases Nat.lt_or_ge i len with hil|hil
  ·rw [List.getElem?_range hil] at hi
   simp only [Option.map_some,Option.some.injEq,Function.comp_apply] at hi
   exact ⟨hil,hi.symm⟩
  ·rw [List.getElem?_eq_none (by simpa using hil)] at hi;cases hi
 have hcell:∀i,i<len→∀j,j<m→W.cell? ⟨b,o+(i*m+j),none⟩=(q i).2[j]? :=fun i hi j hj=>by
  have:=(World.cells?_some (hq i (by omega)).1).2.2 j hj
  rw [Go.Deep.add_add,add_plain] at this
  exact this
 have hdiv:∀i j,j<m→(i*m+j) / m=i∧(i*m+j)%m=j:=fun i j hj=>by
  constructor
  ·rw [Nat.mul_comm,Nat.mul_add_div hm,Nat.div_eq_of_lt hj,Nat.add_zero]
  ·rw [Nat.mul_comm,Nat.mul_add_mod,Nat.mod_eq_of_lt hj]
 have hjm:∀(i:Nat) e (j:Nat) d,(xs.map cells)[i]? =some e→e[j]? =some d→j<m:=fun i e j d hi hj=>by
  obtain ⟨_,rfl⟩:=hget i e hi
  have:=(List.getElem?_eq_some_iff.1 hj).1
  rw [hcl] at this;exact this
 refine ⟨xs,rel2_one ?_,by rw [hxl];omega,fun x hx'=>?_⟩
 ·have key:=DRel.sl (w:=W) (ok:=fun b=>b<W.heap.size) (xs.map cells) m b o k (fun k=>((q (k / m)).2[k%m]?).getD undef)
   (by rw [List.length_map,hxl];exact hl) (by rw [List.length_map,hxl];omega) hblt (fun e he=>by
    obtain ⟨x,_,rfl⟩:=List.mem_map.1 he;exact hcl x) (fun i e j d hi hj=>by
    have hj':=hjm i e j d hi hj
    obtain ⟨hil,rfl⟩:=hget i e hi
    obtain ⟨e1,e2⟩:=hdiv i j hj'
    rw [e1,e2,hcell i hil j hj']
    have hl2:=(World.cells?_some (hq i (by omega)).1).2.1
    rw [List.getElem?_eq_getElem (by omega)];rfl) (fun i e j d hi hj=>by
    have hj':=hjm i e j d hi hj
    obtain ⟨hil,rfl⟩:=hget i e hi
    obtain ⟨e1,e2⟩:=hdiv i j hj'
    rw [e1,e2]
    have hl2:=(World.cells?_some (hq i (by omega)).1).2.1
    have hr:=(hq i (by omega)).2.1
    refine hr.2 j d _ hj ?_
    rw [List.getElem?_eq_getElem (by omega)];rfl)
  rw [List.length_map,hxl] at key
  exact key
 ·obtain ⟨i,hi,rfl⟩:=List.mem_map.1 hx'
  exact (hq i (by have:=List.mem_range.1 hi;omega)).2.2
theorem opn_cell {W:World} {t:TypeId} {v:Value} {d:DataW H} {ps:List MemPlace} {α:Type} {cell:α→D} {ok:α→Prop} (ho:Opn P enc t (fun a=> [cell a]) ok) (hc:v.cells.toList=[v])
  (h:DataW.Trod enc P W 0 (fun _=>true) true t v d ps):∃a,DRel W (fun b=>b<W.heap.size) (cell a) v∧ok a:=by
 obtain ⟨fuel,h⟩:=h
 rw [hc] at h
 obtain ⟨a,h1,h2⟩:=ho W fuel _ _ h
 exact ⟨a,h1.2 0 _ _ rfl rfl,h2⟩
end
end Go.Rx
