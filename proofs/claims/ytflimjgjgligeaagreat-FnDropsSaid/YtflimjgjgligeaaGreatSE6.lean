/-
  Part E6: lemmas on an evaluator over plain data of the model's code, plain laws on lists and numbers, or contracts of functions of the program; each lemma names its conditions.
-/
import Derived.Test.YtflimjgjgligeaaGreatSE5
import Derived.Test.YtflimjgjgligeaaGreatSE1
import Derived.ProofKit
import Derived.Deep.SlicePairs

set_option linter.unusedSimpArgs false
set_option linter.unusedVariables false
namespace Go.Rx
open Go Go.RowKit
theorem Zvg {id:Nat} {ops:Array Oper} {d:Bool}:Zam (.region id ops d)=id:=rfl
theorem Zmj {id:Nat} {ops:Array Oper} {d:Bool} {b:Code}:Zam (.seq (.region id ops d) b)=id:=rfl
theorem Zpo {b:Code}:Zam (.seq .skip b)=Zam b:=rfl
theorem ZnP {l:Nat} {b:Code}:Zam (.seq (.label l) b)=Zam b:=rfl
theorem ZnQ {i:Nat} {a b:Code}:Zam (.seq (.block i a) b)=Zam a:=rfl
theorem Zpp {a b:Code}:Zam (.seq (.loop a) b)=Zam a:=rfl
theorem Zso {a b c:Code}:Zam (.seq (.seq a b) c)=Zam (.seq a b):=rfl
theorem Zxf {i:Nat} {a:Code}:Zam (.block i a)=Zam a:=rfl
theorem Zzj {a:Code}:Zam (.loop a)=Zam a:=rfl
theorem ZrB (n:Nat):((n:Int)).toNat=n:=rfl
theorem ZrX (n:Nat):(0≤(n:Int))=True:=by simp
def Zs3 (tb k:Nat):V→List Z→V
 | .nils,.nils _::_=> .own (tb+1+k) 0 0
 |v,_=>v
def Zs1 (tb k:Nat):V→List Z→Upd→Upd
 | .nils,.nils m::_,r=>(tb+1+k,some (.arr m []))::r
 |_,_,r=>r
def Zk9 (tb:Nat):Nat→List V→List Z→List V
 |_,[],_=> []
 |k,v::vs,zs=>Zs3 tb k v zs::Zk9 tb (k+1) vs (zs.drop 1)
def Zk8 (tb:Nat):Nat→List V→List Z→Upd
 |_,[],_=> []
 |k,v::vs,zs=>Zs1 tb k v zs (Zk8 tb (k+1) vs (zs.drop 1))
theorem Zme (tb:Nat):∀(vs:List V) (k:Nat) (zs:List Z),ZbK tb k vs zs=(Zk9 tb k vs zs,Zk8 tb k vs zs)
 |[],_,_=>rfl
 |v::vs,k,zs=>by
  simp only [ZbK,Zk9,Zk8,Zme tb vs (k+1) (zs.drop 1)];cases v<;>first|rfl|(cases zs with
   |nil=>rfl
   |cons z zs=>cases z<;>rfl)
theorem Zy4 {tb k:Nat} {vs:List V} {zs:List Z}:(ZbK tb k vs zs).1=Zk9 tb k vs zs:=by rw [Zme]
theorem Zy3 {tb k:Nat} {vs:List V} {zs:List Z}:(ZbK tb k vs zs).2=Zk8 tb k vs zs:=by rw [Zme]
attribute [go_sem ↓] Zy4 Zy3
theorem ZzG {tb k:Nat} {x:D} {zs:List Z}:Zs3 tb k (.d x) zs= .d x:=rfl
theorem ZvV {tb k n o l:Nat} {zs:List Z}:Zs3 tb k (.own n o l) zs= .own n o l:=rfl
theorem ZvU {tb k n o:Nat} {zs:List Z}:Zs3 tb k (.ref n o) zs= .ref n o:=rfl
theorem ZxH {tb k n i j:Nat} {zs:List Z}:Zs3 tb k (.el n i j) zs= .el n i j:=rfl
theorem Zs2 {tb k m:Nat} {zs:List Z}:Zs3 tb k .nils (.nils m::zs)= .own (tb+1+k) 0 0:=rfl
theorem ZzF {tb k:Nat} {x:D} {zs:List Z} {r:Upd}:Zs1 tb k (.d x) zs r=r:=rfl
theorem ZvT {tb k n o l:Nat} {zs:List Z} {r:Upd}:Zs1 tb k (.own n o l) zs r=r:=rfl
theorem ZvS {tb k n o:Nat} {zs:List Z} {r:Upd}:Zs1 tb k (.ref n o) zs r=r:=rfl
theorem ZxG {tb k n i j:Nat} {zs:List Z} {r:Upd}:Zs1 tb k (.el n i j) zs r=r:=rfl
theorem Zs0 {tb k m:Nat} {zs:List Z} {r:Upd}:Zs1 tb k .nils (.nils m::zs) r=(tb+1+k,some (.arr m []))::r:=rfl
attribute [go_sem] ZzG ZvV ZvU ZxH Zs2 ZzF ZvT ZvS ZxG Zs0 Zk9.eq_1 Zk9.eq_2 Zk8.eq_1 Zk8.eq_2
theorem ZzL (m n:Nat):Nat.ble m n=decide (m≤n):=by
 cases h:Nat.ble m n
 ·exact (decide_eq_false fun e=>by rw [Nat.ble_eq_true_of_le e] at h;cases h).symm
 ·exact (decide_eq_true (Nat.le_of_ble_eq_true h)).symm
attribute [go_sem] Bool.not_true Bool.not_false Bool.not_not ZzL ZrB ZrX eq_self
attribute [go_sem ↓] Zvg Zmj Zpo ZnP ZnQ Zpp Zso Zxf Zzj
attribute [go_sem] Zaz.eq_1 Zaz.eq_2 Zen.eq_1 Zen.eq_2 prep.eq_1 cap.eq_1 ev.eq_1 ev.eq_2 ev.eq_3 ev.eq_4 eget.eq_1 eget.eq_2 uget.eq_1 uget.eq_2 hget.eq_1 hget.eq_2 V.cells.eq_1 V.cells.eq_2 V.cells.eq_3 V.cells.eq_4 V.cells.eq_5 V.cells.eq_6 Zfu.eq_1 Zfu.eq_2 Zfv.eq_1 Zfv.eq_2 Zcy.eq_1 Zcy.eq_2 Zcy.eq_3 Zcy.eq_4 ZsZ.eq_1 Zia.eq_1 Zab.eq_1 Zab.eq_2 ZjB.eq_1 ZjB.eq_2 Zb2.eq_1 Zb2.eq_2 ZjA.eq_1 ZjA.eq_2 onInt.eq_1 onInt.eq_2 faVC.eq_1 faVC.eq_2 faVC.eq_3 faVC.eq_4 Zcq.eq_1 ZgT.eq_1 ZgT.eq_2 ZgT.eq_3 ZgT.eq_4 ZgT.eq_5 ZgT.eq_6 Zg1.eq_1 Zg1.eq_2 Zg1.eq_3 Zg1.eq_4 Zg1.eq_5 Zg1.eq_6 Zg1.eq_7 Zg1.eq_8 Zj8.eq_1 Zj8.eq_2 Zj8.eq_3 ZcP.eq_1 ZcP.eq_2 ZcP.eq_3 ZcP.eq_4 ZcP.eq_5 ZcP.eq_6 ZcP.eq_7 ZcP.eq_8 ZcP.eq_9 ZcP.eq_10 ZcP.eq_11 ZcP.eq_12 ZcP.eq_13 ZcP.eq_14 ZcP.eq_15 ZcP.eq_16 ZcP.eq_17 Zfh.eq_1 Zfh.eq_2 Zfh.eq_3 St.app.eq_1 St.app.eq_2 order.eq_1 objs.eq_1 objs.eq_2 idx.eq_1 idx.eq_2 dd.eq_1 dd.eq_2 refV.eq_1 refV.eq_2 refA.eq_1 refA.eq_2 refA.eq_3 refC.eq_1 refC.eq_2 refC.eq_3 refC.eq_4 refO.eq_1 renV.eq_1 renV.eq_2 renA.eq_1 renA.eq_2 renA.eq_3 renC.eq_1 renC.eq_2 renC.eq_3 renC.eq_4 renC.eq_5 renC.eq_6 renO.eq_1 renO.eq_2 Znn.eq_1 ZaN.eq_1 Zf1.eq_1 ZgF.eq_1 V.one.eq_1 V.one.eq_2 V.one.eq_3 V.one.eq_4 V.one.eq_5 D.one.eq_1 D.one.eq_2 D.one.eq_3 Zmd.eq_1 Zmd.eq_2 Zmd.eq_3 Zeg.eq_1 Zeg.eq_2 Zeg.eq_3 Zeg.eq_4 Zeg.eq_5 Zeg.eq_6 ZtR.eq_1 ZtR.eq_2 Zoh.eq_1 Zoh.eq_2 ZlI.eq_1 ZlI.eq_2 Zgu.eq_1 ZdU.eq_1 ZdU.eq_2 ZdU.eq_3 Zg3.eq_1 Zgc.eq_1 Zgc.eq_2 Zgc.eq_3 Zgc.eq_4 Zgc.eq_5 Zhn.eq_1 Zhn.eq_2 isSl.eq_1 isSl.eq_2 ZaC.eq_1 ZaC.eq_2 ZaC.eq_3 ZaC.eq_4 ZaC.eq_5 ZaC.eq_6 ZaC.eq_7 ZaC.eq_8 Zb7.eq_1 Zb7.eq_2 Zb7.eq_3 Zca.eq_1 Zeb.eq_1 unVC.eq_1 unVC.eq_2 unVC.eq_3 unVC.eq_4 unVC.eq_5 Zgl.eq_1 Zgl.eq_2 Zfs.eq_1 Zfs.eq_2 Zfs.eq_3 Zfs.eq_4 Zfs.eq_5 Zfs.eq_6 ZfC.eq_1 ZfC.eq_2 ZfC.eq_3 ZcO.eq_1 Zex.eq_1 Zex.eq_2 Zex.eq_3 fits.eq_1 ZkC.eq_1 ZkC.eq_2 slOf.eq_1 slOf.eq_2 toD.eq_1 toD.eq_2 toD.eq_3 cD.eq_1 cD.eq_2 cD.eq_3 cD.eq_4 cDs.eq_1 cDs.eq_2 toP.eq_1 toP.eq_2 toPs.eq_1 toPs.eq_2 Zgn.eq_1 Zgn.eq_2 Zf9.eq_1 Zf9.eq_2 Zf9.eq_3 ZaS.eq_1 ZaS.eq_2 ZaS.eq_3 ZaS.eq_4 ZaS.eq_5 Zec.eq_1 Zec.eq_2 Zec.eq_3 Zbm.eq_1 Zbm.eq_2 Zbm.eq_3 Zbm.eq_4 Zfa.eq_1 Zfa.eq_2 Zfa.eq_3 Zfa.eq_4 Zfa.eq_5 isU8.eq_1 isU8.eq_2 ZkJ.eq_1 ZkJ.eq_2 ZkA.eq_1 ZkA.eq_2 ZfF.eq_1 V.aggc.eq_1 V.aggc.eq_2 V.aggc.eq_3 Zgr.eq_1 Zgr.eq_2 ZeX.eq_1 ZeX.eq_2 ZjK.eq_1 ZjK.eq_2 ZbM.eq_1 ZbM.eq_2 Zfx.eq_1 Zfx.eq_2 Zgd.eq_1 eqT.eq_1 eqT.eq_2 eqT.eq_3 eqT.eq_4 eqO.eq_1 eqO.eq_2 andO.eq_1 andO.eq_2 eqFs.eq_1 eqFs.eq_2 scal.eq_1 scal.eq_2 scal.eq_3 Zl2.eq_1 Zl2.eq_2 Zl2.eq_3 Zkp.eq_1 Zkp.eq_2 Zl9.eq_1 Zl9.eq_2 Zhc.eq_1 Zhc.eq_2 Zhc.eq_3 Zgp.eq_1 Zfe.eq_1 Zid.eq_1 rdN.eq_1 retK.eq_1 retK.eq_2 retK.eq_3 resK.eq_1 resK.eq_2 resK.eq_3 one.eq_1 one.eq_2 ZqW.eq_1 ZkE.eq_1 ZkE.eq_2 Zjk.eq_1 Zjj.eq_1 Zjj.eq_2 ZbD.eq_1 ZbD.eq_2 ZbD.eq_3 ZhU.eq_1 ZhU.eq_2 ZhU.eq_3 ZhU.eq_4 ZjE.eq_1 ZjE.eq_2 ZjE.eq_3 ZjE.eq_4 onNd.eq_1 onNd.eq_2 ZkK.eq_1 ZkK.eq_2 ZkK.eq_3 ZkK.eq_4 slTy.eq_1 Zew.eq_1 Zew.eq_2 Zlp.eq_1 Zgo.eq_1 Zgo.eq_2 appZ.eq_1 appZ.eq_2 ZkX.eq_1 ZkX.eq_2 V.isC.eq_1 V.isC.eq_2 V.isC.eq_3 V.isC.eq_4 ZaU.eq_1 List.drop.eq_1 List.drop.eq_2 List.drop.eq_3 List.take.eq_1 List.take.eq_2 List.take.eq_3 List.map_cons List.map_nil cond_true cond_false List.reverse_cons List.reverse_nil List.nil_append List.cons_append List.append_nil List.zip_cons_cons List.zip_nil_left List.zip_nil_right List.flatMap_cons List.flatMap_nil Nat.reduceBEq List.contains_cons List.contains_nil Bool.or_false Bool.or_true Bool.false_or Option.map_some Option.map_none List.length_cons List.length_nil Nat.reduceAdd Nat.reduceSub Nat.reduceLeDiff Nat.reduceMul List.all_cons List.all_nil Bool.and_true Bool.and_self true_and and_true Nat.reduceLT Nat.lt_add_one Nat.zero_add List.getElem?_cons_zero List.getElem?_cons_succ Bool.true_or beq_self_eq_true decide_true decide_false or_true true_or Option.bind_some List.head?_cons Option.bind_none List.toList_toArray Option.getD_some Option.getD_none List.filterMap_cons List.filterMap_nil
end Go.Rx
namespace Go.Rx
open Go Go.RowKit
@[simp] theorem flatA_nil {vs:List V}:Zgf [] vs=vs:=rfl
@[simp] theorem Zq8 {vs fl:List V}:grpA [] vs fl=fl:=rfl
def toDs (h:Heap):List V→Option (List D×List Nat)
 |[]=>some ([],[])
 |v::vs=>match toD h v,toDs h vs with
  |some (x,l),some (xs,ls)=>some (x::xs,l++ls)
  |_,_=>none
theorem Zcm {h:Heap}:∀ {vs:List V} {xs:List D} {ls:List Nat},toDs h vs=some (xs,ls)→ZbT h [] vs=some (xs.map Arg.dat,[],ls)
 |[],xs,ls,e=>by simp [toDs] at e;obtain ⟨rfl,rfl⟩:=e;rfl
 |v::vs,xs,ls,e=>by
  simp only [toDs] at e;split at e
  ·rename_i x l xs' ls' h1 h2;simp at e;obtain ⟨rfl,rfl⟩:=e;have ih:=Zcm h2;have hd:Zdt h v (xs'.map Arg.dat) [] ls'=some (.dat x::xs'.map Arg.dat,[],l++ls'):=by unfold Zdt;rw [h1]
   simp only [ZbT,List.drop_nil,ih,List.headD_nil,List.map_cons];cases v with
   |ref n off=>simp [toD,cD] at h1
   |_=>exact hd
  ·cases e
theorem Zft:∀xs:List D,(xs.map Arg.dat).filterMap Arg.name? =[]
 |[]=>rfl
 |x::xs=>by simp only [List.map_cons,List.filterMap_cons,Arg.name?];exact Zft xs
theorem ZeH {h:Heap} {H':List (Nat×AObj)}:∀xs:List D,ZdY h H' (xs.map Arg.dat) (xs.map fun _=>V.dead)
 |[]=>trivial
 |x::xs=>ZeH xs
theorem ZdZ {H':List (Nat×AObj)}:∀xs:List D,Zaw H' (xs.map Arg.dat) (xs.map fun _=>V.dead)=true
 |[]=>rfl
 |x::xs=>by simp only [List.map_cons,Zaw];exact ZdZ xs
theorem Zf8:∀(xs:List D) (j:Nat),ZbL (xs.map Arg.dat) (xs.map fun _=>V.dead) j=none
 |[],j=>rfl
 |x::xs,j=>by simp only [List.map_cons,ZbL];exact Zf8 xs j
def bk (tb:Nat) (H':List (Nat×AObj)) (j:Nat):Option Nat:=bif Zdw H' j then some (tb+j) else none
theorem Zja {tb:Nat} {H':List (Nat×AObj)} (xs:List D):back tb (xs.map Arg.dat) (xs.map fun _=>V.dead) H'=bk tb H':=by
 funext j;unfold back bk;rw [Zf8];cases Zdw H' j<;>rfl
def updN (tb:Nat) (H0:List (Nat×AObj)):List (Nat×AObj)→Upd
 |[]=> []
 |p::l=>((bk tb H0 p.1).getD 0,some (renO (bk tb H0) p.2))::updN tb H0 l
theorem ZoG {tb:Nat} {H0:List (Nat×AObj)}:∀H:List (Nat×AObj),H.map (fun p=>((bk tb H0 p.1).getD 0,some (renO (bk tb H0) p.2)))=updN tb H0 H
 |[]=>rfl
 |p::l=>by simp only [List.map_cons,updN,ZoG l]
section
variable {P:Program} {h:Heap} {tb:Nat} {f:FuncId} {args:List V} {K:OK} {xs:List D} {ls:List Nat} {res:V} {H':List (Nat×AObj)}
theorem ZcM (hg:toDs h args=some (xs,ls)) (hc:ZQ P f (xs.map .d) [] (xs.map fun _=> .dead) res H') (hs:ZcC H'=true)
  (hf:ls=[]∨(ZcQ res∧ZhJ H')) (hk:K (renV (bk tb H') res) (updN tb H' H')):Z2 P h tb f args K:=by
 refine ⟨[],[],xs.map .dat,[],ls,xs.map fun _=> .dead,res,H',Zcm hg,by rw [Zft];simp [nodup],?_,?_,ZeH xs,.inl ⟨hf,?_⟩⟩
 ·simpa [argV,objs,List.map_map,Function.comp_def] using hc
 ·rw [ZdZ,hs];rfl
 ·rw [Zja,Zga,Zja,ZoG];simpa using hk
theorem ZvO (hg:toDs h args=some (xs,ls)) (hc:ZQ P f (xs.map .d) [] (xs.map fun _=> .dead) res H') (hs:ZcC H'=true)
  (hk:K (renV (bk tb H') res) (ls.map (·,none)++updN tb H' H')):Z2 P h tb f args K:=by
 refine ⟨[],[],xs.map .dat,[],ls,xs.map fun _=> .dead,res,H',Zcm hg,by rw [Zft];simp [nodup],?_,?_,ZeH xs,.inr ?_⟩
 ·simpa [argV,objs,List.map_map,Function.comp_def] using hc
 ·rw [ZdZ,hs];rfl
 ·rw [Zja,Zga,Zja,ZoG];simpa using hk
def bx (n tb:Nat) (H':List (Nat×AObj)) (j:Nat):Option Nat:=bif 0==j then some n else bk tb H' j
def updX (n tb:Nat) (H0:List (Nat×AObj)):List (Nat×AObj)→Upd
 |[]=> []
 |p::l=>((bx n tb H0 p.1).getD 0,some (renO (bx n tb H0) p.2))::updX n tb H0 l
theorem ZlV {n tb:Nat} {H0:List (Nat×AObj)}:∀H:List (Nat×AObj),H.map (fun p=>((bx n tb H0 p.1).getD 0,some (renO (bx n tb H0) p.2)))=updX n tb H0 H
 |[]=>rfl
 |p::l=>by simp only [List.map_cons,updX,ZlV l]
theorem Zbz (gone:Bool) {n:Nat} {cells:List V} {rest:List V} (hn:h n=some (.box cells)) (hro:refO h n=[n]) (hro2:renO (idx [n]) (.box cells)= .box cells) (hr:toDs h rest=some (xs,ls)) (hnl:ls.contains n=false)
  (hc:ZQ P f (.ref 0 0::xs.map .d) [(0,.box cells)] (.ref 0 0::xs.map fun _=> .dead) res H') (hb:Zpd (hget H' 0)=true) (hs:ZcC H'=true)
  (hf:gone=true∨ls=[]∨(ZcQ res∧ZhJ H')) (hk:K (renV (bx n tb H') res) ((bif gone then ls.map (·,none) else [])++(n,none)::updX n tb H' H')):Z2 P h tb f (.ref n 0::rest) K:=by
 have hidx:idx [n] n=some 0:=by simp [idx]
 have hbk:back tb (.box n::xs.map Arg.dat) (.ref 0 0::xs.map fun _=>V.dead) H'=bx n tb H':=by
  funext j;unfold back bx;simp only [ZbL];cases h0:(0:Nat)==j with
  |true=>cases Zdw H' j<;>rfl
  |false=>simp only [cond_false];rw [Zf8];unfold bk;cases Zdw H' j<;>rfl
 have hu:∀l,Zga tb (.box n::xs.map Arg.dat) (.ref 0 0::xs.map fun _=>V.dead) l H'=l.map (·,none)++updX n tb H' H':=fun l=>by rw [Zga,hbk,ZlV]
 have hgat:ZbT h [] (.ref n 0::rest)=some (.box n::xs.map .dat,[n],ls):=by
  simp only [ZbT,List.drop_nil,Zcm hr,List.headD_nil,Zb8,hn,hro];rfl
 have hcall:ZQ P f ((Arg.box n::xs.map .dat).map (argV [n])) (objs h (idx [n]) 0 [n]) (.ref 0 0::xs.map fun _=> .dead) res H':=by
  have e1:(xs.map Arg.dat).map (argV [n])=xs.map .d:=by rw [List.map_map];rfl
  simp only [List.map_cons,e1,argV,renC,hidx,objs,hn,hro2];exact hc
 refine ⟨[],[],_,_,_,.ref 0 0::xs.map fun _=> .dead,res,H',hgat,?_,hcall,?_,ZeH xs,?_⟩
 ·simp only [List.filterMap_cons,Arg.name?,Zft,nodup,List.all_cons,List.all_nil,hnl];simp
 ·simp only [Zaw,ZdZ,hs,hb];rfl
 ·cases gone with
  |true=>exact .inr (by rw [hbk,hu];simpa using hk)
  |false=>
   refine .inl ⟨hf.resolve_left (by simp),?_⟩;rw [hbk,hu];simpa using hk
end
def ZbC (h:Heap):V→Option (V×List Nat)
 | .tup vs=>match toDs h vs with
  |some (xs,ls)=>some (.tup (xs.map .d),ls)
  |none=>none
 |v=>match toD h v with
  |some (x,ls)=>some (.d x,ls)
  |none=>none
section
variable {w:World} {ok:Nat→Prop} {lam:Nat→Option Nat} {h:Heap}
theorem ZfM (hk:HOK w ok lam h):∀ {vs:List V} {ws:List Value} {xs:List D} {ls:List Nat},Rel2 (VRel w ok lam h) vs ws→toDs h vs=some (xs,ls)→Rel2 (DRel w (okB ok lam h ls)) xs ws
 |[],ws,xs,ls,hr,e=>by
  simp [toDs] at e;obtain ⟨rfl,rfl⟩:=e;rw [hr.nil_left];exact Rel2.nil _
 |v::vs,ws,xs,ls,hr,e=>by
  obtain ⟨x,m,rfl,hv,hm⟩:=hr.uncons;simp only [toDs] at e;split at e
  ·rename_i y l ys ls' h1 h2;simp at e;obtain ⟨rfl,rfl⟩:=e;exact Rel2.cons (DRel.mono (ZgZ hk hv h1) (fun _ _=>rfl) fun b hb=>ZcI hb (by simp;intro n hn;exact .inl hn))
    ((ZfM hk hm h2).mono fun _ _ _ hd=>DRel.mono hd (fun _ _=>rfl) fun b hb=>ZcI hb (by simp;intro n hn;exact .inr hn))
  ·cases e
theorem ZdE (hk:HOK w ok lam h) {v v':V} {x:Value} {ls:List Nat} (hv:VRel w ok lam h v x) (hf:ZbC h v=some (v',ls)) {lam':Nat→Option Nat} {h':Heap}:VRel w (okB ok lam h ls) lam' h' v' x:=by
 have dat:∀v,VRel w ok lam h v x→(match toD h v with|some (x,ls)=>some (V.d x,ls)|none=>none)=some (v',ls)→VRel w (okB ok lam h ls) lam' h' v' x:=fun v hv hf=>by
  split at hf
  ·rename_i y l hd;simp at hf;obtain ⟨rfl,rfl⟩:=hf;exact .d (ZgZ hk hv hd)
  ·cases hf
 cases v with
 |tup vs=>
  simp only [ZbC] at hf;split at hf
  ·rename_i xs l hd;simp at hf;obtain ⟨rfl,rfl⟩:=hf;obtain ⟨cs,rfl,hr⟩:=hv.inv_tup;have:=ZfM hk hr hd;refine VRel.mkTup (Rel2.map V.d this fun y z _ hd=> .d hd)
  ·cases hf
 |_=>exact dat _ hv hf
end
theorem ZnL {P:Program} {f:FuncId} {args:List V} {H:List (Nat×AObj)} {outs:List V} {res res':V} {H':List (Nat×AObj)} {ls:List Nat}
  (hc:ZQ P f args H outs res H') (hf:ZbC (hget H') res=some (res',ls)) (ho:(outs.all fun x=>match x with| .dead=>true|_=>false)=true):ZQ P f args H outs res' []:=by
 refine ⟨hc.1,fun w vs lam ok hk hl hv=>(hc.2 w vs lam ok hk hl hv).mono ?_⟩;rintro e w' ⟨v,lam',ok',rfl,hfr,hk',hres,_,hsub,hown⟩;refine ⟨v,lam',okB ok' lam' (hget H') ls,rfl,hfr,⟨fun n n' b h=>absurd rfl h,fun n b h=>absurd rfl h,fun n b h=>absurd rfl h,fun b hb=>?_,fun n o h=>by cases h⟩,ZdE hk' hres hf,fun i x v hx _=>?_,fun b hb=>?_,fun n b h=>absurd rfl h⟩
 ·rcases hb with hb|⟨n,_,h1,h2⟩
  ·exact hk'.oklt b hb
  ·exact hk'.lt n b h1 h2
 ·have:=List.all_eq_true.1 ho x (List.mem_of_getElem? hx);cases x<;>first|exact .dead|simp at this
 ·rcases hb with hb|⟨n,_,h1,h2⟩
  ·exact hsub b hb
  ·rcases hown n b h1 h2 with h|h
   ·exact .inr (.inl h)
   ·exact .inr (.inr h)
theorem Zsl {P:Program} {f:FuncId} {args:List V} {H:List (Nat×AObj)} {outs:List V} {m n:Nat} {xs:List (List D)} (hc:ZQ P f args H outs (.own 0 0 n) [(0,.arr m xs)]) (hn:n=xs.length) (ho:(outs.all fun x=>match x with| .dead=>true|_=>false)=true):
  ZQ P f args H outs (.d (.sl xs)) []:=ZnL (ls:=[0]) hc (by subst hn;simp [ZbC,toD,cD,hget]) ho
theorem Zd6:ZhJ []:=fun p hp=>by cases hp
theorem ZdO {n:Nat} {o:AObj} {H:List (Nat×AObj)} (h1:ZkM o) (h2:ZhJ H):ZhJ ((n,o)::H):=fun p hp=>by
 rcases List.mem_cons.1 hp with rfl|hp
 ·exact h1
 ·exact h2 p hp
theorem Zxz {n:Nat} {all:List Oper} {fs:List Foot} (h:ZvK all fs=true):ZpW n all fs:=h
theorem wrap64 (n:Int):IntKind.i64.wrap n=(n+9223372036854775808)%18446744073709551616 - 9223372036854775808:=by
 simp [IntKind.wrap,IntKind.bits,IntKind.signed];split<;>omega
theorem Zad {n:Int} (h1: -9223372036854775808≤n) (h2:n<9223372036854775808):IntKind.i64.wrap n=n:=by
 rw [wrap64];omega
theorem ZV {i:Nat} (h:i<LEN):IntKind.i64.wrap ((i:Int)+1)=((i+1:Nat):Int):=by
 rw [Zad]<;>simp only [LEN] at h<;>omega
@[congr] theorem cond_lazy {α:Type} {c c':Bool} {a b:α} (h:c=c'):cond c a b=cond c' a b:=by rw [h]
end Go.Rx
namespace Go.Rx
open Go
def Zrg:D→Bool
 | .int _ _| .bool _| .str _| .sl []| .nilp| .und=>true
 |_=>false
def Zvl:D→Bool
 | .agg cs=>cs.all Zrg
 |x=>Zrg x
def ZnU:V→Bool
 | .d x=>Zvl x
 | .ref _ _| .el _ _ _| .own _ _ _| .nils| .dead=>true
 |_=>false
def Zrf:V→Bool
 | .agg vs=>vs.all ZnU
 |v=>ZnU v
def Zyc:V→Bool
 | .tup vs=>vs.all Zrf
 |v=>Zrf v
theorem ZnV {x:D} (h:Zrg x=true):Flat x:=by
 unfold Zrg at h;split at h<;>first|exact .int _ _|exact .bool _|exact .str _|exact .nil|exact .nilp|exact .und|cases h
theorem Zvk {x:D} (h:Zvl x=true):Flat x:=by
 unfold Zvl at h;split at h
 ·exact .agg fun d hd=>ZnV (List.all_eq_true.1 h d hd)
 ·exact ZnV h
theorem Zj2 {v:V} (h:ZnU v=true):ZcQ v:=by
 unfold ZnU at h;split at h<;>first|exact .d (Zvk h)|exact .ref _ _|exact .el _ _ _|exact .own _ _ _|exact .nils|exact .dead|cases h
theorem ZnT {v:V} (h:Zrf v=true):ZcQ v:=by
 unfold Zrf at h;split at h
 ·exact .agg fun d hd=>Zj2 (List.all_eq_true.1 h d hd)
 ·exact Zj2 h
theorem Ze9 {v:V} (h:Zyc v=true):ZcQ v:=by
 unfold Zyc at h;split at h
 ·exact .tup fun d hd=>ZnT (List.all_eq_true.1 h d hd)
 ·exact ZnT h
def Zyd:AObj→Bool
 | .box cells=>cells.all ZnU
 | .arr _ []=>true
 |_=>false
def flatHB (H:List (Nat×AObj)):Bool:=H.all fun p=>Zyd p.2
theorem Zj3 {H:List (Nat×AObj)} (h:flatHB H=true):ZhJ H:=fun p hp=>by
 have:=List.all_eq_true.1 h p hp;unfold Zyd at this;split at this
 ·rename_i cells e;rw [e];exact fun v hv=>Zj2 (List.all_eq_true.1 this v hv)
 ·rename_i e;rw [e];exact fun e he=>by cases he
 ·cases this
attribute [go_sem] bk.eq_1 bx.eq_1 updN.eq_1 updN.eq_2 updX.eq_1 updX.eq_2 Zdw.eq_1 Zdw.eq_2 back.eq_1 Zjz.eq_1 Zjz.eq_2 Zjz.eq_3 Zga.eq_1 ZbL.eq_1 ZbL.eq_2 ZbL.eq_3 ZbL.eq_4 objs.eq_1 objs.eq_2
def bAnd (k:IntKind) (a b:Int):Int:=k.wrap ((BitVec.ofInt k.bits a&&&BitVec.ofInt k.bits b).toNat:Nat)
def bOr (k:IntKind) (a b:Int):Int:=k.wrap ((BitVec.ofInt k.bits a|||BitVec.ofInt k.bits b).toNat:Nat)
def bXor (k:IntKind) (a b:Int):Int:=k.wrap ((BitVec.ofInt k.bits a ^^^ BitVec.ofInt k.bits b).toNat:Nat)
def bShr (k:IntKind) (a b:Int):Int:=a.fdiv (2 ^ min b.toNat k.bits)
def bShl (k:IntKind) (a b:Int):Int:=k.wrap (a*2 ^ min b.toNat k.bits)
theorem Zze {k:IntKind} {a b:Int} {K:OK}:ZcP .and k a b K=K (.d (.int k (bAnd k a b))) []:=rfl
theorem int_or {k:IntKind} {a b:Int} {K:OK}:ZcP .or k a b K=K (.d (.int k (bOr k a b))) []:=rfl
theorem Zzb {k:IntKind} {a b:Int} {K:OK}:ZcP .xor k a b K=K (.d (.int k (bXor k a b))) []:=rfl
theorem Zzc {k:IntKind} {a b:Int} {K:OK}:ZcP .shr k a b K=Req (0≤b) (K (.d (.int k (bShr k a b))) []):=rfl
theorem Zzd {k:IntKind} {a b:Int} {K:OK}:ZcP .shl k a b K=Req (0≤b) (K (.d (.int k (bShl k a b))) []):=rfl
attribute [go_sem high] Zze int_or Zzb Zzc Zzd
section
variable {P:Program} {h:Heap} {tb:Nat} {f:FuncId} {args args0:List V} {H0:List (Nat×AObj)} {K:OK} {outs:List V} {res:V} {H':List (Nat×AObj)}
end
end Go.Rx
namespace Go.Rx
open Go Go.RowKit
def FrEq:Option (V×List Nat)→V→Prop
 |some (v,_),r=>v=r
 |none,_=>False
def retF (rs:List ResultVar) (T:Tys) (res:V):Exit→St→Prop
 | .normal,s| .ret,s=>resK T s rs fun vs=>FrEq (ZbC (uget s.H) (one vs)) res
 |_,_=>False
theorem Zzz {P:Program} {T:Tys} (hT:TyOK P T) (hm:P.follows .mixedOrders=true) {f:FuncId} {fn:Func} {c:Code} (hf:P.funcs[f]? =some fn) (hname:(fn.name== "runtime.NumGoroutine")=false) (hb:fn.body=some c)
  (hd:Zdv (ZfH fn.ntmps []) c=true) (hr hl:ZW) {args:List V} {outs:List V} {res:V} (hlen:args.length≤fn.ntmps) (ho:(outs.all fun x=>match x with| .dead=>true|_=>false)=true)
  (hv:cVC T P hr hl c (Zjk args []) (retF fn.results.toList T res)):ZQ P f args [] outs res []:=by
 refine ⟨⟨fn,hf,hname,by rw [hb];rfl⟩,fun w vs lam ok hk hal hargs=>?_⟩;refine calls_of_wp hf hb ?_
 let U:Nat→Prop:=fun b=>∃n,hget ([]:List (Nat×AObj)) n≠none∧lam n=some b
 let a0:Act:= {tmps:=⟨vs⟩++Array.replicate (fn.ntmps - (⟨vs⟩:Array Value).size) undef,defers:=[]}
 let N:ZiM:= {size:=fn.ntmps,pin:=fun t=>([]:List Bool).getD t false,val:=fun t=>a0.tmps.getD t undef}
 have hcan:∀d,ZfH fn.ntmps [] d=true→N.can d:=fun d h=>by
  simp only [ZfH,Bool.and_eq_true,Nat.blt_eq,Bool.not_eq_true'] at h;exact h
 have hsz:vs.length≤fn.ntmps:=by omega
 have ha0:∀t,a0.tmps.getD t undef=(vs[t]?).getD undef:=fun t=>by
  show ((⟨vs⟩:Array Value)++Array.replicate (fn.ntmps - vs.length) undef).getD t undef=_;simp only [Array.getD_eq_getD_getElem?];rw [Array.getElem?_append];by_cases ht:t<vs.length
  ·simp [ht]
  ·simp only [List.size_toArray,ht,if_false];rw [List.getElem?_eq_none (by omega),Array.getElem?_replicate];split<;>rfl
 have hE:∀t,eget (Zjk args []).env t=(args[t]?).getD .dead:=fun t=>by
  have:=Zh3 args 0 t
  rwa [Nat.zero_add] at this
 have hH:uget (Zjk args []).H=hget []:=ZlX [];have hs:SRs ok U w N (Zjk args []) a0 w:=by
  refine ⟨ok,lam,?_,fun t=>?_,fun t=>ZaJ.all _,?_,fun t _=>rfl,rfl,Fr.refl _ _⟩
  ·rw [hH];exact ⟨hk,fun n o _=>by cases o with|box c=>exact fun v _=>ZaJ.all v|arr=>trivial,fun _ _=>trivial,fun b hb=> .inl hb,fun n b hn hb=> .inl ⟨n,hn,hb⟩,Nat.le_refl _⟩
  ·rw [hH,hE,ha0];cases hx:args[t]? with
   |none=>exact .dead
   |some x=>
    have ht:t<vs.length:=by have:=(List.getElem?_eq_some_iff.1 hx).1;omega
    have hv:vs[t]? =some vs[t]:=List.getElem?_eq_getElem ht;rw [hv];exact hargs t x _ hx hv
  ·show ((⟨vs⟩:Array Value)++Array.replicate (fn.ntmps - vs.length) undef).size=fn.ntmps;simp;omega
 refine ZlB hT hcan hm hr hl c hd (fun e s a w' h hK=>?_) hs hv;have fin:(resK T s fn.results.toList fun vs=>FrEq (ZbC (uget s.H) (one vs)) res)→a.defers=[]∧∃v,(results fn a.tmps).run P w'= .ok v w'∧∃v' lam' ok',Ending.returned v= .returned v'∧Fr U w w'∧HOK w' ok' lam' (hget [])∧
   VRel w' ok' lam' (hget []) res v'∧(∀(i:Nat) x v,outs[i]? =some x→vs[i]? =some v→VRel w' ok' lam' (hget []) x v)∧
   (∀b,ok' b→ok b∨(∃n,hget ([]:List (Nat×AObj)) n≠none∧lam n=some b)∨w.heap.size≤b)∧
   (∀n b,hget ([]:List (Nat×AObj)) n≠none→lam' n=some b→(∃n',hget ([]:List (Nat×AObj)) n'≠none∧lam n'=some b)∨w.heap.size≤b):=by
  intro hlv;obtain ⟨ok1,lam1,h⟩:=h;obtain ⟨rvs,cvs,hlv,hrun,hrel⟩:=Zg7 hT h (f:=fun| .tmp t=>pure (a.tmps.getD t undef)| .cell b t=>do loadVar t (←asAddr (a.tmps.getD b undef))) (fun _=>rfl) (fun _ _=>rfl) hlv;cases hfz:ZbC (uget s.H) (one rvs) with
  |none=>rw [hfz] at hlv;exact hlv.elim
  |some p=>
   obtain ⟨v',ls⟩:=p;rw [hfz] at hlv;obtain rfl:v'=res:=hlv;have hok:=h.ctx.hok;refine ⟨h.defers,_,Zjq (f:=fun| .tmp t=>pure (a.tmps.getD t undef)| .cell b t=>do loadVar t (←asAddr (a.tmps.getD b undef))) (fun _=>rfl) (fun _ _=>rfl) hrun,_,lam1,okB ok1 lam1 (uget s.H) ls,rfl,⟨h.fr.os,h.fr.tape,h.fr.output,h.fr.size,fun k hk hn=>h.fr.block k hk (by rintro (h1|h1);exact hn h1;omega),h.fr.sized⟩,
    ⟨fun n n' b h=>absurd rfl h,fun n b h=>absurd rfl h,fun n b h=>absurd rfl h,fun b hb=>?_,fun n o h=>by cases h⟩,ZdE hok (Zun hrel) hfz,fun i x v hx _=>?_,fun b hb=>?_,fun n b h=>absurd rfl h⟩
   ·rcases hb with hb|⟨n,_,h1,h2⟩
    ·exact hok.oklt b hb
    ·exact hok.lt n b h1 h2
   ·have:=List.all_eq_true.1 ho x (List.mem_of_getElem? hx);cases x<;>first|exact .dead|simp at this
   ·rcases hb with hb|⟨n,_,h1,h2⟩
    ·exact h.ctx.okb b hb
    ·rcases h.ctx.ownb n b h1 h2 with h|h
     ·exact .inr (.inl h)
     ·exact .inr (.inr h)
 cases e with
 |normal=>exact fin hK
 |ret=>exact fin hK
 |_=>exact hK.elim
attribute [go_sem] FrEq.eq_1 FrEq.eq_2 retF.eq_1 retF.eq_2 retF.eq_3 toDs.eq_1 toDs.eq_2
theorem Zpk {h:Heap} {vs:List V}:ZbC h (.tup vs)=match toDs h vs with|some (xs,ls)=>some (.tup (xs.map .d),ls)|none=>none:=rfl
theorem Zvc {h:Heap} {x:D}:ZbC h (.d x)=some (.d x,[]):=rfl
theorem Zpl {h:Heap} {n o l:Nat}:ZbC h (.own n o l)=match toD h (.own n o l) with|some (x,ls)=>some (.d x,ls)|none=>none:=rfl
theorem Zpm {h:Heap} {vs:List V}:ZbC h (.agg vs)=match toD h (.agg vs) with|some (x,ls)=>some (.d x,ls)|none=>none:=rfl
theorem ZnK {h:Heap}:ZbC h .nils=some (.d (.sl []),[]):=rfl
attribute [go_sem] Zpk Zvc Zpl Zpm ZnK
@[congr] theorem FrEq_congr {o o':Option (V×List Nat)} {r:V} (e:mark o=o'):FrEq o r=FrEq o' r:=by subst e;rfl
end Go.Rx
namespace Go.Rx
open Go Go.RowKit
section
variable {P:Program} {h:Heap} {tb:Nat} {f:FuncId} {K:OK} {xs:List D} {ls:List Nat} {res:V} {H' H0:List (Nat×AObj)}
theorem Za3 (gone:Bool) {n:Nat} {cells:List V} {os:List Nat} {rest:List V} (hc:ZQ P f (.ref 0 0::xs.map .d) H0 (.ref 0 0::xs.map fun _=> .dead) res H')
  (hn:h n=some (.box cells)) (hps:refO h n=n::os) (hnd:nodup (n::os)=true) (hr:toDs h rest=some (xs,ls)) (hdis:((n::os).all fun m=> !ls.contains m)=true)
  (hH:objs h (idx (n::os)) 0 (n::os)=H0) (hb:Zpd (hget H' 0)=true) (hs:ZcC H'=true)
  (hf:gone=true∨ls=[]∨(ZcQ res∧ZhJ H')) (hk:K (renV (bx n tb H') res) ((bif gone then ls.map (·,none) else [])++((n::os).map (·,none)++updX n tb H' H'))):Z2 P h tb f (.ref n 0::rest) K:=by
 subst hH;have hidx:idx (n::os) n=some 0:=by simp [idx]
 have hbk:back tb (.box n::xs.map Arg.dat) (.ref 0 0::xs.map fun _=>V.dead) H'=bx n tb H':=by
  funext j;unfold back bx;simp only [ZbL];cases h0:(0:Nat)==j with
  |true=>cases Zdw H' j<;>rfl
  |false=>simp only [cond_false];rw [Zf8];unfold bk;cases Zdw H' j<;>rfl
 have hu:∀l,Zga tb (.box n::xs.map Arg.dat) (.ref 0 0::xs.map fun _=>V.dead) l H'=l.map (·,none)++updX n tb H' H':=fun l=>by rw [Zga,hbk,ZlV]
 have hgat:ZbT h [] (.ref n 0::rest)=some (.box n::xs.map .dat,n::os,ls):=by
  simp only [ZbT,List.drop_nil,Zcm hr,List.headD_nil,Zb8,hn,hps,List.append_nil]
 have hcall:ZQ P f ((Arg.box n::xs.map .dat).map (argV (n::os))) (objs h (idx (n::os)) 0 (n::os)) (.ref 0 0::xs.map fun _=> .dead) res H':=by
  have e1:(xs.map Arg.dat).map (argV (n::os))=xs.map .d:=by rw [List.map_map];rfl
  simp only [List.map_cons,e1,argV,renC,hidx];exact hc
 refine ⟨[],[],_,_,_,.ref 0 0::xs.map fun _=> .dead,res,H',hgat,?_,hcall,?_,ZeH xs,?_⟩
 ·rw [hnd,hdis];simp only [List.filterMap_cons,Arg.name?,Zft,nodup];simp
 ·simp only [Zaw,ZdZ,hs,hb];rfl
 ·cases gone with
  |true=>refine .inr ?_;rw [hbk,hu];simpa [List.map_append,List.append_assoc] using hk
  |false=>
   refine .inl ⟨hf.resolve_left (by simp),?_⟩;rw [hbk,hu];simpa using hk
end
end Go.Rx
namespace Go.Rx
open Go Go.RowKit
section
variable {P:Program} {h:Heap} {tb:Nat} {f:FuncId} {K:OK} {xs:List D} {ls:List Nat} {res:V} {H' H0:List (Nat×AObj)}
theorem Zj1 {n:Nat} {cells:List V} {os:List Nat} (hn:h n=some (.box cells)) (hps:refO h n=n::os):∀ {vs:List V} {xs:List D} {ls:List Nat},toDs h vs=some (xs,ls)→
  ZbT h [] (vs++[.ref n 0])=some (xs.map Arg.dat++[.box n],n::os,ls)
 |[],xs,ls,e=>by
  simp [toDs] at e;obtain ⟨rfl,rfl⟩:=e;simp only [List.nil_append,ZbT,List.drop_nil,List.headD_nil,Zb8,hn,hps,List.append_nil,List.map_nil]
 |v::vs,xs,ls,e=>by
  simp only [toDs] at e;split at e
  ·rename_i x l xs' ls' h1 h2;simp at e;obtain ⟨rfl,rfl⟩:=e;have ih:=Zj1 hn hps h2;have hd:Zdt h v (xs'.map Arg.dat++[.box n]) (n::os) ls'=some (.dat x::(xs'.map Arg.dat++[.box n]),n::os,l++ls'):=by unfold Zdt;rw [h1]
   simp only [List.cons_append,ZbT,List.drop_nil,ih,List.headD_nil,List.map_cons];cases v with
   |ref n off=>simp [toD,cD] at h1
   |_=>exact hd
  ·cases e
theorem Zil (hb:Zpd (hget H' 0)=true) {n:Nat}:∀xs:List D,Zaw H' (xs.map Arg.dat++[.box n]) (xs.map (fun _=>V.dead)++[.ref 0 0])=true
 |[]=>by simp [Zaw,hb]
 |x::xs=>by simp only [List.map_cons,List.cons_append,Zaw];exact Zil hb xs
theorem Zjw {n:Nat}:∀xs:List D,ZdY h H' (xs.map Arg.dat++[.box n]) (xs.map (fun _=>V.dead)++[.ref 0 0])
 |[]=>trivial
 |x::xs=>Zjw xs
theorem Zkj {n:Nat}:∀(xs:List D) (j:Nat),ZbL (xs.map Arg.dat++[.box n]) (xs.map (fun _=>V.dead)++[.ref 0 0]) j=bif 0==j then some n else none
 |[],j=>rfl
 |x::xs,j=>by simp only [List.map_cons,List.cons_append,ZbL];exact Zkj xs j
theorem Zk7 {n:Nat}:∀xs:List D,(xs.map Arg.dat++[Arg.box n]).filterMap Arg.name? =[n]
 |[]=>rfl
 |x::xs=>by simp only [List.map_cons,List.cons_append,List.filterMap_cons,Arg.name?];exact Zk7 xs
theorem ZcN (gone:Bool) {n:Nat} {cells:List V} {os:List Nat} {vs:List V} (hc:ZQ P f (xs.map .d++[.ref 0 0]) H0 (xs.map (fun _=> .dead)++[.ref 0 0]) res H')
  (hn:h n=some (.box cells)) (hps:refO h n=n::os) (hnd:nodup (n::os)=true) (hr:toDs h vs=some (xs,ls)) (hdis:((n::os).all fun m=> !ls.contains m)=true)
  (hH:objs h (idx (n::os)) 0 (n::os)=H0) (hb:Zpd (hget H' 0)=true) (hs:ZcC H'=true)
  (hf:gone=true∨ls=[]∨(ZcQ res∧ZhJ H')) (hk:K (renV (bx n tb H') res) ((bif gone then ls.map (·,none) else [])++((n::os).map (·,none)++updX n tb H' H'))) {args:List V} (ha:args=vs++[.ref n 0]):Z2 P h tb f args K:=by
 subst hH;subst ha;have hidx:idx (n::os) n=some 0:=by simp [idx]
 have hbk:back tb (xs.map Arg.dat++[.box n]) (xs.map (fun _=>V.dead)++[.ref 0 0]) H'=bx n tb H':=by
  funext j;unfold back bx;rw [Zkj];cases h0:(0:Nat)==j with
  |true=>cases Zdw H' j<;>rfl
  |false=>simp only [cond_false];unfold bk;cases Zdw H' j<;>rfl
 have hu:∀l,Zga tb (xs.map Arg.dat++[.box n]) (xs.map (fun _=>V.dead)++[.ref 0 0]) l H'=l.map (·,none)++updX n tb H' H':=fun l=>by rw [Zga,hbk,ZlV]
 have hcall:ZQ P f ((xs.map Arg.dat++[Arg.box n]).map (argV (n::os))) (objs h (idx (n::os)) 0 (n::os)) (xs.map (fun _=> .dead)++[.ref 0 0]) res H':=by
  have e1:(xs.map Arg.dat).map (argV (n::os))=xs.map .d:=by rw [List.map_map];rfl
  simp only [List.map_append,List.map_cons,List.map_nil,e1,argV,renC,hidx];exact hc
 refine ⟨[],[],_,_,_,xs.map (fun _=> .dead)++[.ref 0 0],res,H',Zj1 hn hps hr,?_,(by simp only [Zq8];exact hcall),?_,Zjw xs,?_⟩
 ·rw [hnd,hdis,Zk7];simp [nodup]
 ·rw [Zil hb,hs];rfl
 ·cases gone with
  |true=>refine .inr ?_;rw [hbk,hu];simpa [List.map_append,List.append_assoc] using hk
  |false=>
   refine .inl ⟨hf.resolve_left (by simp),?_⟩;rw [hbk,hu];simpa using hk
end
end Go.Rx
namespace Go.Rx
open Go Go.RowKit
theorem Ziv {h:Heap} {v v':V} {ls:List Nat} (hf:ZbC h v=some (v',ls)):ZaJ (fun _=>False) v':=by
 have dat:∀v,(match toD h v with|some (x,ls)=>some (V.d x,ls)|none=>none)=some (v',ls)→ZaJ (fun _=>False) v':=fun v hf=>by
  split at hf
  ·simp at hf;obtain ⟨rfl,rfl⟩:=hf;exact .d _
  ·cases hf
 cases v with
 |tup vs=>
  simp only [ZbC] at hf;split at hf
  ·simp at hf;obtain ⟨rfl,rfl⟩:=hf;exact .tup fun v hv=>by
    obtain ⟨x,_,rfl⟩:=List.mem_map.1 hv;exact .d x
  ·cases hf
 |d x=>exact dat (.d x) hf
 |ref n o=>exact dat (.ref n o) hf
 |el n i j=>exact dat (.el n i j) hf
 |own n o l=>exact dat (.own n o l) hf
 |nils=>exact dat .nils hf
 |agg vs=>exact dat (.agg vs) hf
 |clo g vs=>exact dat (.clo g vs) hf
 |dead=>exact dat .dead hf
theorem Zf4 {P : Program} {f : FuncId} {args : List V} {H : List (Nat × AObj)} {outs : List V} {res res' : V} {H' : List (Nat × AObj)} {cells : List V} {ds : List D} {ls ls' : List Nat}
    (hc : ZQ P f args H outs res H') (h0 : hget H' 0 = some (.box cells)) (hd : toDs (hget H') cells = some (ds, ls)) (hf : ZbC (hget H') res = some (res', ls')) (hn : 0 ∉ ls ++ ls')
    (ho : (outs.all fun x => match x with | .dead => true | .ref 0 _ => true | _ => false) = true) : ZQ P f args H outs res' [(0, .box (ds.map .d))] := by
  refine ⟨hc.1, fun w vs lam ok hk hl hv => (hc.2 w vs lam ok hk hl hv).mono ?_⟩;rintro e w' ⟨v, lam', ok', rfl, hfr, hk', hres, hout, hsub, hown⟩;have hmono : ∀ (a b : List Nat), (∀ n ∈ a, n ∈ b) → ∀ x, okB ok' lam' (hget H') a x → okB ok' lam' (hget H') b x := fun a b hab x hx => by
    rcases hx with hx | ⟨n, h1, h2, h3⟩
    · exact .inl hx
    · exact .inr ⟨n, hab n h1, h2, h3⟩
  have hne : hget H' 0 ≠ none := by rw [h0]; simp
  obtain ⟨b, cs, T, g1, g2, g3, g4⟩ := hk'.obj 0 _ h0;have hrel : Rel2 (DRel w' (okB ok' lam' (hget H') ls)) ds cs.toList := ZfM hk' (ws := cs.toList) ⟨by rw [g3]; simp, fun i x c hx hy => g4 i x c hx (by rw [← Array.getElem?_toList]; exact hy)⟩ hd;have key : ∀ n, hget [(0, AObj.box (ds.map .d))] n ≠ none → n = 0 := fun n hn => by
    by_cases h : n = 0
    · exact h
    · exact absurd (by have e : (0 == n) = false := by simpa using (Ne.symm h)
                       simp only [hget, e, cond_false]) hn
  refine ⟨v, lam', okB ok' lam' (hget H') (ls ++ ls'), rfl, hfr, ⟨fun n n' b h h' _ _ => by rw [key n h, key n' h'], fun n b h hb => ?_, fun n b h hb hx => ?_, fun b hb => ?_, fun n o h => ?_⟩, ?_, fun i x v hx hy => ?_, fun b hb => ?_, fun n b h hb => ?_⟩
  · rw [key n h] at hb; exact hk'.lt 0 b hne hb
  · rw [key n h] at hb
    rcases hx with hx | ⟨m, h1, h2, h3⟩
    · exact hk'.dis 0 b hne hb hx
    · have := hk'.inj 0 m b hne h2 hb h3
      subst this; exact hn h1
  · rcases hb with hb | ⟨n, _, h1, h2⟩
    · exact hk'.oklt b hb
    · exact hk'.lt n b h1 h2
  · obtain rfl := key n (by rw [h]; simp)
    have : o = .box (ds.map .d) := by simpa [hget] using h.symm
    subst this;refine ⟨b, cs, T, g1, g2, by rw [List.length_map, hrel.1]; simp, fun i x c hx hy => ?_⟩;rw [List.getElem?_map, Option.map_eq_some_iff] at hx;obtain ⟨d, hd', rfl⟩ := hx;exact .d ((hrel.2 i d c hd' (by rw [Array.getElem?_toList]; exact hy)).mono (fun _ _ => rfl) (hmono _ _ fun n hn => List.mem_append_left _ hn))
  · exact (ZdE hk' hres hf (lam' := lam') (h' := hget [(0, AObj.box (ds.map .d))])).mono (Ziv hf) (fun _ _ => rfl) (hmono _ _ fun n hn => List.mem_append_right _ hn) (fun _ h => h.elim) (fun _ h => h.elim) (fun _ h => h.elim) (fun _ _ _ _ _ _ _ h => h.elim)
  · have hxx := List.all_eq_true.1 ho x (List.mem_of_getElem? hx)
    have hvx := hout i x v hx hy;cases x with
    | dead => exact .dead
    | ref n off =>
      cases n with
      | zero =>
        cases hvx with
        | ref h1 h =>
          refine .ref h1 fun o ho => ?_
          exact h _ h0
      | succ n => simp at hxx
    | _ => simp at hxx
  · rcases hb with hb | ⟨n, _, h1, h2⟩
    · exact hsub b hb
    · rcases hown n b h1 h2 with h | h
      · exact .inr (.inl h)
      · exact .inr (.inr h)
  · rw [key n h] at hb; exact hown 0 b hne hb
theorem Zpj {P : Program} {f : FuncId} {args : List V} {H : List (Nat × AObj)} {outs : List V} {res res' : V} {H' : List (Nat × AObj)} {cells cells2 : List V} {ds ds2 : List D} {ls ls2 ls' : List Nat}
    (hc : ZQ P f args H outs res H') (h0 : hget H' 0 = some (.box cells)) (h1 : hget H' 1 = some (.box cells2)) (hd : toDs (hget H') cells = some (ds, ls)) (hd2 : toDs (hget H') cells2 = some (ds2, ls2)) (hf : ZbC (hget H') res = some (res', ls'))
    (hn : 0 ∉ ls ++ ls2 ++ ls') (hn1 : 1 ∉ ls ++ ls2 ++ ls')
    (ho : (outs.all fun x => match x with | .dead => true | .ref 0 _ => true | .ref 1 _ => true | _ => false) = true) : ZQ P f args H outs res' [(0, .box (ds.map .d)), (1, .box (ds2.map .d))] := by
  refine ⟨hc.1, fun w vs lam ok hk hl hv => (hc.2 w vs lam ok hk hl hv).mono ?_⟩;rintro e w' ⟨v, lam', ok', rfl, hfr, hk', hres, hout, hsub, hown⟩;have hmono : ∀ (a b : List Nat), (∀ n ∈ a, n ∈ b) → ∀ x, okB ok' lam' (hget H') a x → okB ok' lam' (hget H') b x := fun a b hab x hx => by
    rcases hx with hx | ⟨n, h1, h2, h3⟩
    · exact .inl hx
    · exact .inr ⟨n, hab n h1, h2, h3⟩
  have hne : hget H' 0 ≠ none := by rw [h0]; simp
  have hne1 : hget H' 1 ≠ none := by rw [h1]; simp
  have key : ∀ n, hget [(0, AObj.box (ds.map .d)), (1, .box (ds2.map .d))] n ≠ none → n = 0 ∨ n = 1 := fun n hn => by
    by_cases h : n = 0
    · exact .inl h
    · by_cases h' : n = 1
      · exact .inr h'
      · exact absurd (by have e : (0 == n) = false := by simpa using (Ne.symm h)
                         have e' : (1 == n) = false := by simpa using (Ne.symm h')
                         simp only [hget, e, e', cond_false]) hn
  have hne' : ∀ n, hget [(0, AObj.box (ds.map .d)), (1, .box (ds2.map .d))] n ≠ none → hget H' n ≠ none := fun n hn => by
    rcases key n hn with rfl | rfl
    · exact hne
    · exact hne1
  have hnot : ∀ n, hget [(0, AObj.box (ds.map .d)), (1, .box (ds2.map .d))] n ≠ none → n ∉ ls ++ ls2 ++ ls' := fun n h => by
    rcases key n h with rfl | rfl
    · exact hn
    · exact hn1
  have robj : ∀ (k : Nat) (cs : List V) (es : List D) (l : List Nat), hget H' k = some (.box cs) → toDs (hget H') cs = some (es, l) → (∀ n ∈ l, n ∈ ls ++ ls2 ++ ls') → Zcn w' (okB ok' lam' (hget H') (ls ++ ls2 ++ ls')) lam' (hget [(0, AObj.box (ds.map .d)), (1, .box (ds2.map .d))]) k (.box (es.map .d)) := by
    intro k cs es l hk0 hes hsubl;obtain ⟨b, bs, T, g1, g2, g3, g4⟩ := hk'.obj k _ hk0;have hrel : Rel2 (DRel w' (okB ok' lam' (hget H') l)) es bs.toList := ZfM hk' (ws := bs.toList) ⟨by rw [g3]; simp, fun i x c hx hy => g4 i x c hx (by rw [← Array.getElem?_toList]; exact hy)⟩ hes;refine ⟨b, bs, T, g1, g2, by rw [List.length_map, hrel.1]; simp, fun i x c hx hy => ?_⟩;rw [List.getElem?_map, Option.map_eq_some_iff] at hx;obtain ⟨d, hd', rfl⟩ := hx;exact .d ((hrel.2 i d c hd' (by rw [Array.getElem?_toList]; exact hy)).mono (fun _ _ => rfl) (hmono _ _ hsubl))
  refine ⟨v, lam', okB ok' lam' (hget H') (ls ++ ls2 ++ ls'), rfl, hfr, ⟨fun n n' b h h' hb hb' => hk'.inj n n' b (hne' n h) (hne' n' h') hb hb', fun n b h hb => hk'.lt n b (hne' n h) hb, fun n b h hb hx => ?_, fun b hb => ?_, fun n o h => ?_⟩, ?_, fun i x v hx hy => ?_, fun b hb => ?_, fun n b h hb => hown n b (hne' n h) hb⟩
  · rcases hx with hx | ⟨m, g1, g2, g3⟩
    · exact hk'.dis n b (hne' n h) hb hx
    · have := hk'.inj n m b (hne' n h) g2 hb g3
      subst this; exact hnot _ h g1
  · rcases hb with hb | ⟨n, _, h1, h2⟩
    · exact hk'.oklt b hb
    · exact hk'.lt n b h1 h2
  · rcases key n (by rw [h]; simp) with rfl | rfl
    · have : o = .box (ds.map .d) := by simpa [hget] using h.symm
      subst this;exact robj 0 _ _ _ h0 hd fun n hn => by simp [hn]
    · have : o = .box (ds2.map .d) := by simpa [hget] using h.symm
      subst this;exact robj 1 _ _ _ h1 hd2 fun n hn => by simp [hn]
  · exact (ZdE hk' hres hf (lam' := lam') (h' := hget [(0, AObj.box (ds.map .d)), (1, .box (ds2.map .d))])).mono (Ziv hf) (fun _ _ => rfl) (hmono _ _ fun n hn => by simp [hn]) (fun _ h => h.elim) (fun _ h => h.elim) (fun _ h => h.elim) (fun _ _ _ _ _ _ _ h => h.elim)
  · have hxx := List.all_eq_true.1 ho x (List.mem_of_getElem? hx)
    have hvx := hout i x v hx hy;cases x with
    | dead => exact .dead
    | ref n off =>
      match n, hvx, hxx with
      | 0, hvx, _ =>
        cases hvx with
        | ref h1 h => exact .ref h1 fun o ho => h _ h0
      | 1, hvx, _ =>
        cases hvx with
        | ref h1' h => exact .ref h1' fun o ho => h _ h1
      | n + 2, _, hxx => simp at hxx
    | _ => simp at hxx
  · rcases hb with hb | ⟨n, _, h1, h2⟩
    · exact hsub b hb
    · rcases hown n b h1 h2 with h | h
      · exact .inr (.inl h)
      · exact .inr (.inr h)
section
variable {P:Program} {h:Heap} {tb:Nat} {f:FuncId} {K:OK} {x:D}
theorem ZvP {n m:Nat} {cells cells2 c1 c2:List V} (hc:ZQ P f [.ref 0 0,.ref 1 0] [(0,.box cells),(1,.box cells2)] [.ref 0 0,.ref 1 0] (.d x) [(0,.box c1),(1,.box c2)])
  (hn:h n=some (.box cells)) (hm:h m=some (.box cells2)) (hro:refO h n=[n]) (hro':refO h m=[m]) (hne:(n==m)=false) (hr1:renO (idx [n,m]) (.box cells)= .box cells) (hr2:renO (idx [n,m]) (.box cells2)= .box cells2)
  (hx:∀r,renO r (.box c1)= .box c1) (hy:∀r,renO r (.box c2)= .box c2) (hk:K (.d x) [(n,none),(m,none),(n,some (.box c1)),(m,some (.box c2))]):Z2 P h tb f [.ref n 0,.ref m 0] K:=by
 have hne':n≠m:=by simpa using hne
 have i1:idx [n,m] n=some 0:=by simp [idx]
 have i2:idx [n,m] m=some 1:=by simp [idx,hne]
 have hgat:ZbT h [] [.ref n 0,.ref m 0]=some ([.box n,.box m],[n,m],[]):=by
  simp only [ZbT,List.drop_nil,List.headD_nil,Zb8,hn,hm,hro,hro',List.append_nil,List.singleton_append]
 refine ⟨[],[],[.box n,.box m],[n,m],[],[.ref 0 0,.ref 1 0],.d x,[(0,.box c1),(1,.box c2)],hgat,?_,?_,rfl,trivial,.inl ⟨.inl rfl,?_⟩⟩
 ·simp [nodup,Arg.name?,hne']
 ·simp only [Zq8,List.map_cons,List.map_nil,argV,renC,i1,i2,objs,hn,hm,hr1,hr2];exact hc
 ·have b0:back tb [.box n,.box m] [.ref 0 0,.ref 1 0] [(0,AObj.box c1),(1,.box c2)] 0=some n:=rfl;have b1:back tb [.box n,.box m] [.ref 0 0,.ref 1 0] [(0,AObj.box c1),(1,.box c2)] 1=some m:=rfl;simpa only [Zga,List.map_cons,List.map_nil,b0,b1,hx,hy,Option.getD_some,renV,renA,renC,List.cons_append,List.nil_append] using hk
end
end Go.Rx
namespace Go.Rx
open Go
theorem rq {p q:Prop} (h2:q) (h1:p:=by first|omega|assumption|exact Zxz (by kernel_rfl)|(simp only [LEN,List.length_append,List.length_cons,List.length_nil];omega)|(simp [D.one];omega)|(simp [D.one];done)):Req p q:=⟨h1,h2⟩
theorem ZxQ {p q:Prop}:Way true p q=p:=propext ⟨fun h=>h.1 rfl,fun h=>⟨fun _=>h,(fun h=>nomatch h)⟩⟩
theorem ZtB {p q:Prop}:Way false p q=q:=propext ⟨fun h=>h.2 rfl,fun h=>⟨(fun h=>nomatch h),fun _=>h⟩⟩
theorem Zyv {p q:Prop}:WayG true true p q=p:=propext ⟨fun h=>h.1 rfl,fun h=>⟨fun _=>h,(fun h=>nomatch h)⟩⟩
theorem Zyw {p q:Prop}:WayG false true p q=q:=propext ⟨fun h=>h.2 rfl,fun h=>⟨(fun h=>nomatch h),fun _=>h⟩⟩
theorem Zyy {p q:Prop}:WayG false false p q=p:=propext ⟨fun h=>h.1 rfl,fun h=>⟨fun _=>h,(fun h=>nomatch h)⟩⟩
theorem Zyx {p q:Prop}:WayG true false p q=q:=propext ⟨fun h=>h.2 rfl,fun h=>⟨(fun h=>nomatch h),fun _=>h⟩⟩
attribute [go_sem] ZxQ ZtB Zyv Zyw Zyy Zyx
theorem wn {b:Bool} {p q:Prop} (h:q) (e:b=false:=by rfl):Way b p q:=by subst e;rw [ZtB];exact h
theorem gy {b w:Bool} {p q:Prop} (h:p) (e:b=w:=by rfl):WayG b w p q:=⟨fun _=>h,fun h2=>(by subst e;cases b<;>cases h2)⟩
theorem gn {b w:Bool} {p q:Prop} (h:q) (e:b= !w:=by rfl):WayG b w p q:=⟨fun h2=>(by subst h2;cases b<;>cases e),fun _=>h⟩
theorem wl {b:Bool} {p q r:Prop} (h:r) (e:b=true∧r=p∨b=false∧r=q:=by first|exact .inl ⟨rfl,rfl⟩|exact .inr ⟨rfl,rfl⟩):Way b p q:=by
 rcases e with ⟨rfl,rfl⟩|⟨rfl,rfl⟩
 ·rw [ZxQ];exact h
 ·rw [ZtB];exact h
theorem gl {b w:Bool} {p q r:Prop} (h:r) (e:b=w∧r=p∨b=(!w)∧r=q:=by first|exact .inl ⟨rfl,rfl⟩|exact .inr ⟨rfl,rfl⟩):WayG b w p q:=by
 rcases e with ⟨e,rfl⟩|⟨e,rfl⟩
 ·exact gy h e
 ·exact gn h e
structure Later (p:Prop):Prop where
 get:p
end Go.Rx
namespace Go.Rx
open Go
class Fork (X:Prop) (c d p q:outParam Prop):Prop where
 go:(c→p)→(d→q)→X
instance (priority:=100) {b:Bool} {p q:Prop}:Fork (Way b p q) (b=true) (b=false) p q:=⟨way⟩
instance (priority:=500) {b:Bool} {p q:Prop}:Fork (Way (!b) p q) (b=false) (b=true) p q:=⟨Zyu⟩
instance {c:Prop} [Decidable c] {p q:Prop}:Fork (Way (decide c) p q) c (¬c) p q:=⟨Zfi⟩
instance {c:Prop} [Decidable c] {p q:Prop}:Fork (Way (!decide c) p q) (¬c) c p q:=⟨Zqp⟩
instance (priority:=100) {b:Bool} {p q:Prop}:Fork (WayG b true p q) (b=true) (b=false) p q:=⟨wayT⟩
instance (priority:=100) {b:Bool} {p q:Prop}:Fork (WayG b false p q) (b=false) (b=true) p q:=⟨wayF⟩
instance {c:Prop} [Decidable c] {p q:Prop}:Fork (WayG (decide c) true p q) c (¬c) p q:=⟨ZlT⟩
instance {c:Prop} [Decidable c] {p q:Prop}:Fork (WayG (decide c) false p q) (¬c) c p q:=⟨Zwp⟩
instance {c:Prop} [Decidable c] {p q:Prop}:Fork (WayG (!decide c) true p q) (¬c) c p q:=⟨ZtC⟩
instance {c:Prop} [Decidable c] {p q:Prop}:Fork (WayG (!decide c) false p q) c (¬c) p q:=⟨ZtD⟩
theorem fork {X c d p q:Prop} [h:Fork X c d p q] (h1:c→p) (h2:d→q):X:=h.go h1 h2
def unD:List V→List D
 |[]=> []
 | .d x::l=>x::unD l
 |_::l=> .und::unD l
@[go_sem] theorem unD_nil:unD []=[]:=rfl
@[go_sem] theorem unD_d {x:D} {l:List V}:unD (.d x::l)=x::unD l:=rfl
theorem kf {P:Program} {f:FuncId} {as outs:List V} {res:V} {H':List (Nat×AObj)} (hc:ZQ P f as [] outs res H')⦃h:Heap⦄ ⦃tb:Nat⦄ ⦃K:OK⦄ ⦃args:List V⦄ ⦃ls:List Nat⦄(hg:toDs h args=some (unD as,ls)) (hk:K (renV (bk tb H') res) (updN tb H' H'))
  (h1:(unD as).map .d=as:=by rfl) (h2:outs=(unD as).map fun _=> .dead:=by rfl) (hs:ZcC H'=true:=by rfl)
  (hfl:ls=[]∨ZcQ res∧ZhJ H':=by first|exact .inl rfl|exact .inr ⟨Ze9 rfl,Zj3 rfl⟩|exact .inr ⟨Ze9 rfl,by repeat (first|exact Zd6|refine ZdO (by first|exact Zhu|exact ZnS|exact Zxl|exact Zxk|exact Zlu|exact Zps) ?_)⟩):Z2 P h tb f args K:=
 ZcM hg (by rw [h1,←h2];exact hc) hs hfl hk
def hh (l:List (List Nat)):ZW:=fun n=>l.getD n []
@[go_sem] theorem hh_zero {a:List Nat} {l:List (List Nat)}:hh (a::l) 0=a:=rfl
@[go_sem] theorem hh_succ {a:List Nat} {l:List (List Nat)} {n:Nat}:hh (a::l) (n+1)=hh l n:=rfl
@[go_sem] theorem hh_nil {n:Nat}:hh [] n=[]:=rfl
attribute [go_sem] decide_true decide_false
end Go.Rx
namespace Go.Rx
open Go
theorem ZbU {α:Type} {l:List α} {i:Nat} {p:α} (h:l[i]? =some p):l.drop i=p::l.drop (i+1):=by
 obtain ⟨hi,h⟩:=List.getElem?_eq_some_iff.1 h;rw [List.drop_eq_getElem_cons hi,h]
theorem Z7 {α:Type} {l:List α} {i:Nat} {p:α} (h:l[i]? =some p):l.take (i+1)=l.take i++[p]:=by
 obtain ⟨hi,h⟩:=List.getElem?_eq_some_iff.1 h;rw [List.take_succ_eq_append_getElem hi,h]
theorem Z3 {α:Type} {l:List α} {i:Nat} (h:(i:Int)<(l.length:Int)):∃p,l[i]? =some p:=
 ⟨l[i]'(by omega),by simp⟩
def ZyL {α:Type} (small:α→Prop) (l:List α):Prop:=l.length≤1048576∧∀x∈l,small x
def strs (l:List (List UInt8)):List (List D):=l.map fun s=> [.str s]
theorem ZdT {l:List (List UInt8)}:(strs l).length=l.length:=by simp [strs]
theorem ZM {l:List (List UInt8)} {i:Nat} {p:List UInt8} (h:l[i]? =some p):lget (strs l) i=[.str p]:=by simp [lget,strs,List.getD,h]
theorem ZfP {m:List (List UInt8)} {i:Nat} {p:List UInt8}:(strs m).set i [.str p]=strs (m.set i p):=by simp [strs,List.map_set]
def ints (l:List Int):List (List D):=l.map fun s=> [.int .i64 s]
theorem Za7 {l:List Int}:(ints l).length=l.length:=by simp [ints]
theorem ZO {l:List Int} {i:Nat} {p:Int} (h:l[i]? =some p):lget (ints l) i=[.int .i64 p]:=by simp [lget,ints,List.getD,h]
theorem Zq3 {m:List Int} {i:Nat} {p:Int}:(ints m).set i [.int .i64 p]=ints (m.set i p):=by simp [ints,List.map_set]
end Go.Rx
namespace Go.Rx
open Go
def bls (l:List Bool):List (List D):=l.map fun b=> [.bool b]
theorem Zs4 {l:List Bool}:(bls l).length=l.length:=by simp [bls]
theorem ZfX {l:List Bool} {i:Nat} {p:Bool} (h:l[i]? =some p):lget (bls l) i=[.bool p]:=by simp [lget,bls,List.getD,h]
theorem ZzH {m:List Bool} {i:Nat} {p:Bool}:(bls m).set i [.bool p]=bls (m.set i p):=by simp [bls,List.map_set]
def bys (l:List UInt8):List (List D):=l.map ZaU
theorem Za4 {l:List UInt8}:(bys l).length=l.length:=by simp [bys]
theorem ZzA {m:List UInt8} {i:Nat} {p:UInt8}:(bys m).set i [.int .u8 p.toNat]=bys (m.set i p):=by simp [bys,List.map_set,ZaU]
theorem ZiZ {l:List UInt8} {i:Nat} {p:UInt8} (h:l[i]? =some p):lget (bys l) i=[.int .u8 p.toNat]:=by simp [lget,bys,List.getD,h,ZaU]
theorem ZtT {m:List (List UInt8)} {p:(List UInt8)}:strs m++[[.str p]]=strs (m++[p]):=by simp [strs]
theorem ZmN {m:List (List UInt8)} {n:Nat}:(strs m).take n=strs (m.take n):=by simp [strs]
theorem Zwz {m:List (List UInt8)}:∀c∈strs m,c.length=1:=fun c hc=>by simp only [strs,List.mem_map] at hc;obtain ⟨p,_,rfl⟩:=hc;rfl
theorem ZwA {m:List (List UInt8)}:∀c∈strs m,∀d∈c,d.one=true:=fun c hc d hd=>by
 simp only [strs,List.mem_map] at hc;obtain ⟨p,_,rfl⟩:=hc;simp only [List.mem_cons,List.not_mem_nil,or_false] at hd;subst hd;rfl
theorem ZnS {l:List (List UInt8)} {m:Nat}:ZkM (.arr m (strs l)):=by
 intro e he d hd;simp only [strs,List.mem_map] at he;obtain ⟨p,_,rfl⟩:=he;simp only [List.mem_cons,List.not_mem_nil,or_false] at hd;subst hd;first|exact .str _|exact .int _ _|exact .bool _
theorem Zu0 {m:List Int} {p:Int}:ints m++[[.int .i64 p]]=ints (m++[p]):=by simp [ints]
theorem Zi3 {m l:List Int}:ints m++ints l=ints (m++l):=by simp [ints]
theorem ZnF {m:List Int} {n:Nat}:(ints m).take n=ints (m.take n):=by simp [ints]
theorem Zu3 {m:List Int} {n:Nat}:(ints m).drop n=ints (m.drop n):=by simp [ints]
theorem Zw4 {m:List Int}:∀c∈ints m,c.length=1:=fun c hc=>by simp only [ints,List.mem_map] at hc;obtain ⟨p,_,rfl⟩:=hc;rfl
theorem Zw5 {m:List Int}:∀c∈ints m,∀d∈c,d.one=true:=fun c hc d hd=>by
 simp only [ints,List.mem_map] at hc;obtain ⟨p,_,rfl⟩:=hc;simp only [List.mem_cons,List.not_mem_nil,or_false] at hd;subst hd;rfl
theorem Zhu {l:List Int} {m:Nat}:ZkM (.arr m (ints l)):=by
 intro e he d hd;simp only [ints,List.mem_map] at he;obtain ⟨p,_,rfl⟩:=he;simp only [List.mem_cons,List.not_mem_nil,or_false] at hd;subst hd;first|exact .str _|exact .int _ _|exact .bool _
theorem ZxI {m:List Bool} {p:Bool}:bls m++[[.bool p]]=bls (m++[p]):=by simp [bls]
theorem Zro {m:List Bool} {n:Nat}:(bls m).take n=bls (m.take n):=by simp [bls]
theorem ZzI {m:List Bool}:∀c∈bls m,c.length=1:=fun c hc=>by simp only [bls,List.mem_map] at hc;obtain ⟨p,_,rfl⟩:=hc;rfl
theorem ZzJ {m:List Bool}:∀c∈bls m,∀d∈c,d.one=true:=fun c hc d hd=>by
 simp only [bls,List.mem_map] at hc;obtain ⟨p,_,rfl⟩:=hc;simp only [List.mem_cons,List.not_mem_nil,or_false] at hd;subst hd;rfl
theorem Zxl {l:List Bool} {m:Nat}:ZkM (.arr m (bls l)):=by
 intro e he d hd;simp only [bls,List.mem_map] at he;obtain ⟨p,_,rfl⟩:=he;simp only [List.mem_cons,List.not_mem_nil,or_false] at hd;subst hd;first|exact .str _|exact .int _ _|exact .bool _
theorem ZxC {m:List UInt8} {p:UInt8}:bys m++[[.int .u8 p.toNat]]=bys (m++[p]):=by simp [bys,ZaU]
theorem Zrm {m:List UInt8} {n:Nat}:(bys m).take n=bys (m.take n):=by simp [bys]
theorem ZzB {m:List UInt8}:∀c∈bys m,c.length=1:=fun c hc=>by simp only [bys,List.mem_map] at hc;obtain ⟨p,_,rfl⟩:=hc;rfl
theorem ZzC {m:List UInt8}:∀c∈bys m,∀d∈c,d.one=true:=fun c hc d hd=>by
 simp only [bys,List.mem_map] at hc;obtain ⟨p,_,rfl⟩:=hc;simp only [ZaU,List.mem_cons,List.not_mem_nil,or_false] at hd;subst hd;rfl
theorem Zxk {l:List UInt8} {m:Nat}:ZkM (.arr m (bys l)):=by
 intro e he d hd;simp only [bys,List.mem_map] at he;obtain ⟨p,_,rfl⟩:=he;simp only [ZaU,List.mem_cons,List.not_mem_nil,or_false] at hd;subst hd;first|exact .str _|exact .int _ _|exact .bool _
theorem Zdz {m:List (List UInt8)}:(strs m).take m.length=strs m:=by rw [ZmN,List.take_length]
theorem ZtW {m:List (List UInt8)} {p:(List UInt8)}:(strs (m++[p])).take (m.length+1)=strs (m++[p]):=by rw [ZmN,List.take_of_length_le (by simp)]
theorem ZtU {m:List (List UInt8)}:(∀c∈strs m,c.length=1)=True:=eq_true Zwz
theorem ZtV {m:List (List UInt8)}:(∀c∈strs m,∀d∈c,d.one=true)=True:=eq_true ZwA
attribute [go_sem] ZdT ZtT Zdz ZtW ZtU ZtV
theorem Zby {m:List Int}:(ints m).take m.length=ints m:=by rw [ZnF,List.take_length]
theorem ZnG {m:List Int} {p:Int}:(ints (m++[p])).take (m.length+1)=ints (m++[p]):=by rw [ZnF,List.take_of_length_le (by simp)]
theorem Zu1 {m:List Int}:(∀c∈ints m,c.length=1)=True:=eq_true Zw4
theorem Zu2 {m:List Int}:(∀c∈ints m,∀d∈c,d.one=true)=True:=eq_true Zw5
attribute [go_sem] Za7 Zu0 Zby ZnG Zu1 Zu2
theorem ZzK {m:List Bool}:(bls m).take m.length=bls m:=by rw [Zro,List.take_length]
theorem ZxL {m:List Bool} {p:Bool}:(bls (m++[p])).take (m.length+1)=bls (m++[p]):=by rw [Zro,List.take_of_length_le (by simp)]
theorem ZxJ {m:List Bool}:(∀c∈bls m,c.length=1)=True:=eq_true ZzI
theorem ZxK {m:List Bool}:(∀c∈bls m,∀d∈c,d.one=true)=True:=eq_true ZzJ
attribute [go_sem] Zs4 ZxI ZzK ZxL ZxJ ZxK
theorem ZzD {m:List UInt8}:(bys m).take m.length=bys m:=by rw [Zrm,List.take_length]
theorem ZxF {m:List UInt8} {p:UInt8}:(bys (m++[p])).take (m.length+1)=bys (m++[p]):=by rw [Zrm,List.take_of_length_le (by simp)]
theorem ZxD {m:List UInt8}:(∀c∈bys m,c.length=1)=True:=eq_true ZzB
theorem ZxE {m:List UInt8}:(∀c∈bys m,∀d∈c,d.one=true)=True:=eq_true ZzC
attribute [go_sem] Za4 ZxC ZzD ZxF ZxD ZxE
theorem Zpq {α:Type} {p:α→Prop}:(∀x∈([]:List α),p x)=True:=eq_true fun x h=>by cases h
attribute [go_sem] List.forall_mem_cons Zpq ZzA Zq3 ZfP ZzH and_self
structure GPut where
 Zu:Int
 ZC:List UInt8
 deriving DecidableEq,Inhabited
def GPut.cells (x:GPut):List D:=[.int .i64 x.Zu,.str x.ZC]
def GPut.zero:GPut:=⟨0,[]⟩
def Zae (l:List GPut):List (List D):=l.map GPut.cells
theorem GPut.cells_eq {p:GPut}:p.cells=[.int .i64 p.Zu,.str p.ZC]:=rfl
theorem Zox {l:List GPut}:(Zae l).length=l.length:=by simp [Zae]
theorem ZaY {l:List GPut} {i:Nat} {p:GPut} (h:l[i]? =some p):lget (Zae l) i=[.int .i64 p.Zu,.str p.ZC]:=by simp [lget,Zae,List.getD,h,GPut.cells]
theorem ZlO {m:List GPut} {n:Nat}:(Zae m).take n=Zae (m.take n):=by simp [Zae]
theorem Zwb {m:List GPut}:∀c∈Zae m,c.length=2:=fun c hc=>by simp only [Zae,List.mem_map] at hc;obtain ⟨p,_,rfl⟩:=hc;rfl
theorem Zwc {m:List GPut}:∀c∈Zae m,∀d∈c,d.one=true:=fun c hc d hd=>by
 simp only [Zae,List.mem_map] at hc;obtain ⟨p,_,rfl⟩:=hc;simp only [GPut.cells,List.mem_cons,List.not_mem_nil,or_false] at hd;rcases hd with rfl|rfl<;>rfl
theorem Zqa {m:List GPut} {aPage:Int} {aText:List UInt8}:Zae m++[[.int .i64 aPage,.str aText]]=Zae (m++[⟨aPage,aText⟩]):=by simp [Zae,GPut.cells]
theorem Zte {m:List GPut} {i:Nat} {aPage:Int} {aText:List UInt8}:(Zae m).set i [.int .i64 aPage,.str aText]=Zae (m.set i ⟨aPage,aText⟩):=by simp [Zae,List.map_set,GPut.cells]
theorem ZxP {p:GPut}:(⟨p.Zu,p.ZC⟩:GPut)=p:=rfl
theorem ZfJ {m:List GPut}:(Zae m).take m.length=Zae m:=by rw [ZlO,List.take_length]
theorem Zth {m:List GPut} {p:GPut}:(Zae (m++[p])).take (m.length+1)=Zae (m++[p]):=by rw [ZlO,List.take_of_length_le (by simp)]
theorem Ztf {m:List GPut}:(∀c∈Zae m,c.length=2)=True:=eq_true Zwb
theorem Ztg {m:List GPut}:(∀c∈Zae m,∀d∈c,d.one=true)=True:=eq_true Zwc
attribute [go_sem] Zox Zqa Zte ZxP ZfJ Zth Ztf Ztg
theorem Zlu {l:List GPut} {m:Nat}:ZkM (.arr m (Zae l)):=by
 intro e he d hd;simp only [Zae,List.mem_map] at he;obtain ⟨p,_,rfl⟩:=he;simp only [GPut.cells,List.mem_cons,List.not_mem_nil,or_false] at hd;rcases hd with rfl|rfl<;>first|exact .str _|exact .int _ _|exact .bool _
structure ZT where
 Zv:List (List UInt8)
 Zm:List GPut
 deriving DecidableEq,Inhabited
def ZT.cells (x:ZT):List D:=[.sl (strs x.Zv),.sl (Zae x.Zm)]
def ZT.zero:ZT:=⟨[],[]⟩
theorem ZT.cells_eq {p:ZT}:p.cells=[.sl (strs p.Zv),.sl (Zae p.Zm)]:=rfl
theorem Zwh {p:ZT}:(⟨p.Zv,p.Zm⟩:ZT)=p:=rfl
attribute [go_sem] Zwh
structure ZhI where
 Zr:List UInt8
 Zl:Int
 deriving DecidableEq,Inhabited
def ZhI.cells (x:ZhI):List D:=[.str x.Zr,.int .i64 x.Zl]
def ZhI.zero:ZhI:=⟨[],0⟩
theorem ZhI.cells_eq {p:ZhI}:p.cells=[.str p.Zr,.int .i64 p.Zl]:=rfl
theorem Ztq {p:ZhI}:(⟨p.Zr,p.Zl⟩:ZhI)=p:=rfl
attribute [go_sem] Ztq
structure ZiF where
 Zt:Int
 ZC:List UInt8
 deriving DecidableEq,Inhabited
def ZiF.cells (x:ZiF):List D:=[.int .i64 x.Zt,.str x.ZC]
def ZiF.zero:ZiF:=⟨0,[]⟩
theorem ZiF.cells_eq {p:ZiF}:p.cells=[.int .i64 p.Zt,.str p.ZC]:=rfl
theorem Zta {p:ZiF}:(⟨p.Zt,p.ZC⟩:ZiF)=p:=rfl
attribute [go_sem] Zta
structure Z1 where
 Zn:Bool
 Zj:List (List UInt8)
 ZJ:List (List UInt8)
 Zk:List Int
 deriving DecidableEq,Inhabited
def Z1.cells (x:Z1):List D:=[.bool x.Zn,.sl (strs x.Zj),.sl (strs x.ZJ),.sl (ints x.Zk)]
def Z1.zero:Z1:=⟨false,[],[],[]⟩
def Zbq (l:List Z1):List (List D):=l.map Z1.cells
theorem Z1.cells_eq {p:Z1}:p.cells=[.bool p.Zn,.sl (strs p.Zj),.sl (strs p.ZJ),.sl (ints p.Zk)]:=rfl
theorem ZaV {l:List Z1}:(Zbq l).length=l.length:=by simp [Zbq]
theorem ZbN {l:List Z1} {i:Nat} {p:Z1} (h:l[i]? =some p):lget (Zbq l) i=[.bool p.Zn,.sl (strs p.Zj),.sl (strs p.ZJ),.sl (ints p.Zk)]:=by simp [lget,Zbq,List.getD,h,Z1.cells]
theorem Zkv {m:List Z1} {n:Nat}:(Zbq m).take n=Zbq (m.take n):=by simp [Zbq]
theorem Ztk {m:List Z1}:∀c∈Zbq m,c.length=4:=fun c hc=>by simp only [Zbq,List.mem_map] at hc;obtain ⟨p,_,rfl⟩:=hc;rfl
theorem Ztl {m:List Z1}:∀c∈Zbq m,∀d∈c,d.one=true:=fun c hc d hd=>by
 simp only [Zbq,List.mem_map] at hc;obtain ⟨p,_,rfl⟩:=hc;simp only [Z1.cells,List.mem_cons,List.not_mem_nil,or_false] at hd;rcases hd with rfl|rfl|rfl|rfl<;>rfl
theorem Zoz {m:List Z1} {aLeaf:Bool} {aKeys:List (List UInt8)} {aVals:List (List UInt8)} {aKids:List Int}:Zbq m++[[.bool aLeaf,.sl (strs aKeys),.sl (strs aVals),.sl (ints aKids)]]=Zbq (m++[⟨aLeaf,aKeys,aVals,aKids⟩]):=by simp [Zbq,Z1.cells]
theorem Zqf {m:List Z1} {i:Nat} {aLeaf:Bool} {aKeys:List (List UInt8)} {aVals:List (List UInt8)} {aKids:List Int}:(Zbq m).set i [.bool aLeaf,.sl (strs aKeys),.sl (strs aVals),.sl (ints aKids)]=Zbq (m.set i ⟨aLeaf,aKeys,aVals,aKids⟩):=by simp [Zbq,List.map_set,Z1.cells]
theorem Zwe {p:Z1}:(⟨p.Zn,p.Zj,p.ZJ,p.Zk⟩:Z1)=p:=rfl
theorem Ztm {m:List Z1}:(Zbq m).take m.length=Zbq m:=by rw [Zkv,List.take_length]
theorem Zqi {m:List Z1} {p:Z1}:(Zbq (m++[p])).take (m.length+1)=Zbq (m++[p]):=by rw [Zkv,List.take_of_length_le (by simp)]
theorem Zqg {m:List Z1}:(∀c∈Zbq m,c.length=4)=True:=eq_true Ztk
theorem Zqh {m:List Z1}:(∀c∈Zbq m,∀d∈c,d.one=true)=True:=eq_true Ztl
attribute [go_sem] ZaV Zoz Zqf Zwe Ztm Zqi Zqg Zqh
structure Zau where
 ZF:Int
 Zv:List Int
 deriving DecidableEq,Inhabited
def Zau.cells (x:Zau):List D:=[.int .i64 x.ZF,.sl (ints x.Zv)]
def Zau.zero:Zau:=⟨0,[]⟩
def Z9 (l:List Zau):List (List D):=l.map Zau.cells
theorem Zau.cells_eq {p:Zau}:p.cells=[.int .i64 p.ZF,.sl (ints p.Zv)]:=rfl
theorem ZmC {l:List Zau}:(Z9 l).length=l.length:=by simp [Z9]
theorem Z4 {l:List Zau} {i:Nat} {p:Zau} (h:l[i]? =some p):lget (Z9 l) i=[.int .i64 p.ZF,.sl (ints p.Zv)]:=by simp [lget,Z9,List.getD,h,Zau.cells]
theorem Zkw {m:List Zau} {n:Nat}:(Z9 m).take n=Z9 (m.take n):=by simp [Z9]
theorem Ztn {m:List Zau}:∀c∈Z9 m,c.length=2:=fun c hc=>by simp only [Z9,List.mem_map] at hc;obtain ⟨p,_,rfl⟩:=hc;rfl
theorem Zto {m:List Zau}:∀c∈Z9 m,∀d∈c,d.one=true:=fun c hc d hd=>by
 simp only [Z9,List.mem_map] at hc;obtain ⟨p,_,rfl⟩:=hc;simp only [Zau.cells,List.mem_cons,List.not_mem_nil,or_false] at hd;rcases hd with rfl|rfl<;>rfl
theorem ZoA {m:List Zau} {aTx:Int} {aPages:List Int}:Z9 m++[[.int .i64 aTx,.sl (ints aPages)]]=Z9 (m++[⟨aTx,aPages⟩]):=by simp [Z9,Zau.cells]
theorem Zqj {m:List Zau} {i:Nat} {aTx:Int} {aPages:List Int}:(Z9 m).set i [.int .i64 aTx,.sl (ints aPages)]=Z9 (m.set i ⟨aTx,aPages⟩):=by simp [Z9,List.map_set,Zau.cells]
theorem Zwg {p:Zau}:(⟨p.ZF,p.Zv⟩:Zau)=p:=rfl
theorem Ztp {m:List Zau}:(Z9 m).take m.length=Z9 m:=by rw [Zkw,List.take_length]
theorem Zqm {m:List Zau} {p:Zau}:(Z9 (m++[p])).take (m.length+1)=Z9 (m++[p]):=by rw [Zkw,List.take_of_length_le (by simp)]
theorem Zqk {m:List Zau}:(∀c∈Z9 m,c.length=2)=True:=eq_true Ztn
theorem Zql {m:List Zau}:(∀c∈Z9 m,∀d∈c,d.one=true)=True:=eq_true Zto
attribute [go_sem] ZmC ZoA Zqj Zwg Ztp Zqm Zqk Zql
def ZrG (x:Zau):Prop:=x.Zv.length≤1048576
structure ZX where
 ZF:Int
 Zy:Int
 Zs:Int
 Ze:List Zau
 deriving DecidableEq,Inhabited
def ZX.cells (x:ZX):List D:=[.int .i64 x.ZF,.int .i64 x.Zy,.int .i64 x.Zs,.sl (Z9 x.Ze)]
def ZX.zero:ZX:=⟨0,0,0,[]⟩
theorem ZX.cells_eq {p:ZX}:p.cells=[.int .i64 p.ZF,.int .i64 p.Zy,.int .i64 p.Zs,.sl (Z9 p.Ze)]:=rfl
theorem Zwf {p:ZX}:(⟨p.ZF,p.Zy,p.Zs,p.Ze⟩:ZX)=p:=rfl
attribute [go_sem] Zwf
def ZaD (x:ZX):Prop:=ZyL ZrG x.Ze
structure ZS where
 Zc:ZT
 Zs:Int
 ZH:List Int
 Zg:List Int
 Zf:List Int
 deriving DecidableEq,Inhabited
def ZS.cells (x:ZS):List D:=[.sl (strs x.Zc.Zv),.sl (Zae x.Zc.Zm),.int .i64 x.Zs,.sl (ints x.ZH),.sl (ints x.Zg),.sl (ints x.Zf)]
def ZS.zero:ZS:=⟨ZT.zero,0,[],[],[]⟩
theorem ZS.cells_eq {p:ZS}:p.cells=[.sl (strs p.Zc.Zv),.sl (Zae p.Zc.Zm),.int .i64 p.Zs,.sl (ints p.ZH),.sl (ints p.Zg),.sl (ints p.Zf)]:=rfl
theorem Zv9 {p:ZS}:(⟨⟨p.Zc.Zv,p.Zc.Zm⟩,p.Zs,p.ZH,p.Zg,p.Zf⟩:ZS)=p:=rfl
attribute [go_sem] Zv9
structure GTxn where
 Za:ZX
 ZK:ZS
 Zy:Int
 deriving DecidableEq,Inhabited
def GTxn.cells (x:GTxn):List D:=[.int .i64 x.Za.ZF,.int .i64 x.Za.Zy,.int .i64 x.Za.Zs,.sl (Z9 x.Za.Ze),.sl (strs x.ZK.Zc.Zv),.sl (Zae x.ZK.Zc.Zm),.int .i64 x.ZK.Zs,.sl (ints x.ZK.ZH),.sl (ints x.ZK.Zg),.sl (ints x.ZK.Zf),.int .i64 x.Zy]
def GTxn.zero:GTxn:=⟨ZX.zero,ZS.zero,0⟩
theorem GTxn.cells_eq {p:GTxn}:p.cells=[.int .i64 p.Za.ZF,.int .i64 p.Za.Zy,.int .i64 p.Za.Zs,.sl (Z9 p.Za.Ze),.sl (strs p.ZK.Zc.Zv),.sl (Zae p.ZK.Zc.Zm),.int .i64 p.ZK.Zs,.sl (ints p.ZK.ZH),.sl (ints p.ZK.Zg),.sl (ints p.ZK.Zf),.int .i64 p.Zy]:=rfl
theorem ZxO {p:GTxn}:(⟨⟨p.Za.ZF,p.Za.Zy,p.Za.Zs,p.Za.Ze⟩,⟨⟨p.ZK.Zc.Zv,p.ZK.Zc.Zm⟩,p.ZK.Zs,p.ZK.ZH,p.ZK.Zg,p.ZK.Zf⟩,p.Zy⟩:GTxn)=p:=rfl
attribute [go_sem] ZxO
structure Zaf where
 Zh:Int
 Zp:ZX
 deriving DecidableEq,Inhabited
def Zaf.cells (x:Zaf):List D:=[.int .i64 x.Zh,.int .i64 x.Zp.ZF,.int .i64 x.Zp.Zy,.int .i64 x.Zp.Zs,.sl (Z9 x.Zp.Ze)]
def Zaf.zero:Zaf:=⟨0,ZX.zero⟩
def Zaa (l:List Zaf):List (List D):=l.map Zaf.cells
theorem Zaf.cells_eq {p:Zaf}:p.cells=[.int .i64 p.Zh,.int .i64 p.Zp.ZF,.int .i64 p.Zp.Zy,.int .i64 p.Zp.Zs,.sl (Z9 p.Zp.Ze)]:=rfl
theorem Zkt {l:List Zaf}:(Zaa l).length=l.length:=by simp [Zaa]
theorem Zag {l:List Zaf} {i:Nat} {p:Zaf} (h:l[i]? =some p):lget (Zaa l) i=[.int .i64 p.Zh,.int .i64 p.Zp.ZF,.int .i64 p.Zp.Zy,.int .i64 p.Zp.Zs,.sl (Z9 p.Zp.Ze)]:=by simp [lget,Zaa,List.getD,h,Zaf.cells]
theorem ZiG {m l:List Zaf}:Zaa m++Zaa l=Zaa (m++l):=by simp [Zaa]
theorem ZdI {m:List Zaf} {n:Nat}:(Zaa m).take n=Zaa (m.take n):=by simp [Zaa]
theorem ZhH {m:List Zaf} {n:Nat}:(Zaa m).drop n=Zaa (m.drop n):=by simp [Zaa]
theorem Zov {m:List Zaf}:∀c∈Zaa m,c.length=5:=fun c hc=>by simp only [Zaa,List.mem_map] at hc;obtain ⟨p,_,rfl⟩:=hc;rfl
theorem Zow {m:List Zaf}:∀c∈Zaa m,∀d∈c,d.one=true:=fun c hc d hd=>by
 simp only [Zaa,List.mem_map] at hc;obtain ⟨p,_,rfl⟩:=hc;simp only [Zaf.cells,List.mem_cons,List.not_mem_nil,or_false] at hd;rcases hd with rfl|rfl|rfl|rfl|rfl<;>rfl
theorem ZkL {m:List Zaf} {aId:Int} {aMetaTx:Int} {aMetaRoot:Int} {aMetaNext:Int} {aMetaFrees:List Zau}:Zaa m++[[.int .i64 aId,.int .i64 aMetaTx,.int .i64 aMetaRoot,.int .i64 aMetaNext,.sl (Z9 aMetaFrees)]]=Zaa (m++[⟨aId,⟨aMetaTx,aMetaRoot,aMetaNext,aMetaFrees⟩⟩]):=by simp [Zaa,Zaf.cells]
theorem Zmy {m:List Zaf} {i:Nat} {aId:Int} {aMetaTx:Int} {aMetaRoot:Int} {aMetaNext:Int} {aMetaFrees:List Zau}:(Zaa m).set i [.int .i64 aId,.int .i64 aMetaTx,.int .i64 aMetaRoot,.int .i64 aMetaNext,.sl (Z9 aMetaFrees)]=Zaa (m.set i ⟨aId,⟨aMetaTx,aMetaRoot,aMetaNext,aMetaFrees⟩⟩):=by simp [Zaa,List.map_set,Zaf.cells]
theorem Zp9 {p:Zaf}:(⟨p.Zh,⟨p.Zp.ZF,p.Zp.Zy,p.Zp.Zs,p.Zp.Ze⟩⟩:Zaf)=p:=rfl
theorem ZfI {m:List Zaf}:(Zaa m).take m.length=Zaa m:=by rw [ZdI,List.take_length]
theorem ZmB {m:List Zaf} {p:Zaf}:(Zaa (m++[p])).take (m.length+1)=Zaa (m++[p]):=by rw [ZdI,List.take_of_length_le (by simp)]
theorem Zmz {m:List Zaf}:(∀c∈Zaa m,c.length=5)=True:=eq_true Zov
theorem ZmA {m:List Zaf}:(∀c∈Zaa m,∀d∈c,d.one=true)=True:=eq_true Zow
attribute [go_sem] Zkt ZkL Zmy Zp9 ZfI ZmB Zmz ZmA
structure ZN where
 Zc:ZT
 Zp:ZX
 Zx:List Zaf
 ZG:GTxn
 ZL:Bool
 Zd:Bool
 deriving DecidableEq,Inhabited
def ZN.cells (x:ZN):List D:=[.sl (strs x.Zc.Zv),.sl (Zae x.Zc.Zm),.int .i64 x.Zp.ZF,.int .i64 x.Zp.Zy,.int .i64 x.Zp.Zs,.sl (Z9 x.Zp.Ze),.sl (Zaa x.Zx),.int .i64 x.ZG.Za.ZF,.int .i64 x.ZG.Za.Zy,.int .i64 x.ZG.Za.Zs,.sl (Z9 x.ZG.Za.Ze),.sl (strs x.ZG.ZK.Zc.Zv),.sl (Zae x.ZG.ZK.Zc.Zm),.int .i64 x.ZG.ZK.Zs,.sl (ints x.ZG.ZK.ZH),.sl (ints x.ZG.ZK.Zg),.sl (ints x.ZG.ZK.Zf),.int .i64 x.ZG.Zy,.bool x.ZL,.bool x.Zd]
def ZN.zero:ZN:=⟨ZT.zero,ZX.zero,[],GTxn.zero,false,false⟩
theorem ZN.cells_eq {p:ZN}:p.cells=[.sl (strs p.Zc.Zv),.sl (Zae p.Zc.Zm),.int .i64 p.Zp.ZF,.int .i64 p.Zp.Zy,.int .i64 p.Zp.Zs,.sl (Z9 p.Zp.Ze),.sl (Zaa p.Zx),.int .i64 p.ZG.Za.ZF,.int .i64 p.ZG.Za.Zy,.int .i64 p.ZG.Za.Zs,.sl (Z9 p.ZG.Za.Ze),.sl (strs p.ZG.ZK.Zc.Zv),.sl (Zae p.ZG.ZK.Zc.Zm),.int .i64 p.ZG.ZK.Zs,.sl (ints p.ZG.ZK.ZH),.sl (ints p.ZG.ZK.Zg),.sl (ints p.ZG.ZK.Zf),.int .i64 p.ZG.Zy,.bool p.ZL,.bool p.Zd]:=rfl
theorem Ztb {p:ZN}:(⟨⟨p.Zc.Zv,p.Zc.Zm⟩,⟨p.Zp.ZF,p.Zp.Zy,p.Zp.Zs,p.Zp.Ze⟩,p.Zx,⟨⟨p.ZG.Za.ZF,p.ZG.Za.Zy,p.ZG.Za.Zs,p.ZG.Za.Ze⟩,⟨⟨p.ZG.ZK.Zc.Zv,p.ZG.ZK.Zc.Zm⟩,p.ZG.ZK.Zs,p.ZG.ZK.ZH,p.ZG.ZK.Zg,p.ZG.ZK.Zf⟩,p.ZG.Zy⟩,p.ZL,p.Zd⟩:ZN)=p:=rfl
attribute [go_sem] Ztb
structure ZR where
 Zi:List UInt8
 ZI:List UInt8
 deriving DecidableEq,Inhabited
def ZR.cells (x:ZR):List D:=[.str x.Zi,.str x.ZI]
def ZR.zero:ZR:=⟨[],[]⟩
def Zaj (l:List ZR):List (List D):=l.map ZR.cells
theorem ZR.cells_eq {p:ZR}:p.cells=[.str p.Zi,.str p.ZI]:=rfl
theorem ZaG {l:List ZR}:(Zaj l).length=l.length:=by simp [Zaj]
theorem Zar {l:List ZR} {i:Nat} {p:ZR} (h:l[i]? =some p):lget (Zaj l) i=[.str p.Zi,.str p.ZI]:=by simp [lget,Zaj,List.getD,h,ZR.cells]
theorem Zku {m:List ZR} {n:Nat}:(Zaj m).take n=Zaj (m.take n):=by simp [Zaj]
theorem Zti {m:List ZR}:∀c∈Zaj m,c.length=2:=fun c hc=>by simp only [Zaj,List.mem_map] at hc;obtain ⟨p,_,rfl⟩:=hc;rfl
theorem Ztj {m:List ZR}:∀c∈Zaj m,∀d∈c,d.one=true:=fun c hc d hd=>by
 simp only [Zaj,List.mem_map] at hc;obtain ⟨p,_,rfl⟩:=hc;simp only [ZR.cells,List.mem_cons,List.not_mem_nil,or_false] at hd;rcases hd with rfl|rfl<;>rfl
theorem Zoy {m:List ZR} {aKey:List UInt8} {aVal:List UInt8}:Zaj m++[[.str aKey,.str aVal]]=Zaj (m++[⟨aKey,aVal⟩]):=by simp [Zaj,ZR.cells]
theorem Zqb {m:List ZR} {i:Nat} {aKey:List UInt8} {aVal:List UInt8}:(Zaj m).set i [.str aKey,.str aVal]=Zaj (m.set i ⟨aKey,aVal⟩):=by simp [Zaj,List.map_set,ZR.cells]
theorem Zwd {p:ZR}:(⟨p.Zi,p.ZI⟩:ZR)=p:=rfl
theorem ZeR {m:List ZR}:(Zaj m).take m.length=Zaj m:=by rw [Zku,List.take_length]
theorem Zqe {m:List ZR} {p:ZR}:(Zaj (m++[p])).take (m.length+1)=Zaj (m++[p]):=by rw [Zku,List.take_of_length_le (by simp)]
theorem Zqc {m:List ZR}:(∀c∈Zaj m,c.length=2)=True:=eq_true Zti
theorem Zqd {m:List ZR}:(∀c∈Zaj m,∀d∈c,d.one=true)=True:=eq_true Ztj
attribute [go_sem] ZaG Zoy Zqb Zwd ZeR Zqe Zqc Zqd
theorem Zps {l:List ZR} {m:Nat}:ZkM (.arr m (Zaj l)):=by
 intro e he d hd;simp only [Zaj,List.mem_map] at he;obtain ⟨p,_,rfl⟩:=he;simp only [ZR.cells,List.mem_cons,List.not_mem_nil,or_false] at hd;rcases hd with rfl|rfl<;>first|exact .str _|exact .int _ _|exact .bool _
structure Z6 where
 Zl:Int
 Zh:Int
 Zi:List UInt8
 ZI:List UInt8
 ZA:Int
 Zo:List Bool
 ZE:Int
 deriving DecidableEq,Inhabited
def Z6.cells (x:Z6):List D:=[.int .i64 x.Zl,.int .i64 x.Zh,.str x.Zi,.str x.ZI,.int .i64 x.ZA,.sl (bls x.Zo),.int .i64 x.ZE]
def Z6.zero:Z6:=⟨0,0,[],[],0,[],0⟩
theorem Z6.cells_eq {p:Z6}:p.cells=[.int .i64 p.Zl,.int .i64 p.Zh,.str p.Zi,.str p.ZI,.int .i64 p.ZA,.sl (bls p.Zo),.int .i64 p.ZE]:=rfl
theorem Ztr {p:Z6}:(⟨p.Zl,p.Zh,p.Zi,p.ZI,p.ZA,p.Zo,p.ZE⟩:Z6)=p:=rfl
attribute [go_sem] Ztr
structure ZbV where
 Zh:Int
 Zw:List ZR
 deriving DecidableEq,Inhabited
def ZbV.cells (x:ZbV):List D:=[.int .i64 x.Zh,.sl (Zaj x.Zw)]
def ZbV.zero:ZbV:=⟨0,[]⟩
def Zbh (l:List ZbV):List (List D):=l.map ZbV.cells
theorem ZbV.cells_eq {p:ZbV}:p.cells=[.int .i64 p.Zh,.sl (Zaj p.Zw)]:=rfl
theorem Zmx {l:List ZbV}:(Zbh l).length=l.length:=by simp [Zbh]
theorem Zbc {l:List ZbV} {i:Nat} {p:ZbV} (h:l[i]? =some p):lget (Zbh l) i=[.int .i64 p.Zh,.sl (Zaj p.Zw)]:=by simp [lget,Zbh,List.getD,h,ZbV.cells]
theorem Zkr {m:List ZbV} {n:Nat}:(Zbh m).take n=Zbh (m.take n):=by simp [Zbh]
theorem Ztc {m:List ZbV}:∀c∈Zbh m,c.length=2:=fun c hc=>by simp only [Zbh,List.mem_map] at hc;obtain ⟨p,_,rfl⟩:=hc;rfl
theorem Ztd {m:List ZbV}:∀c∈Zbh m,∀d∈c,d.one=true:=fun c hc d hd=>by
 simp only [Zbh,List.mem_map] at hc;obtain ⟨p,_,rfl⟩:=hc;simp only [ZbV.cells,List.mem_cons,List.not_mem_nil,or_false] at hd;rcases hd with rfl|rfl<;>rfl
theorem Zou {m:List ZbV} {aId:Int} {aPairs:List ZR}:Zbh m++[[.int .i64 aId,.sl (Zaj aPairs)]]=Zbh (m++[⟨aId,aPairs⟩]):=by simp [Zbh,ZbV.cells]
theorem Zp6 {m:List ZbV} {i:Nat} {aId:Int} {aPairs:List ZR}:(Zbh m).set i [.int .i64 aId,.sl (Zaj aPairs)]=Zbh (m.set i ⟨aId,aPairs⟩):=by simp [Zbh,List.map_set,ZbV.cells]
theorem Zwa {p:ZbV}:(⟨p.Zh,p.Zw⟩:ZbV)=p:=rfl
theorem ZlN {m:List ZbV}:(Zbh m).take m.length=Zbh m:=by rw [Zkr,List.take_length]
theorem Zks {m:List ZbV} {p:ZbV}:(Zbh (m++[p])).take (m.length+1)=Zbh (m++[p]):=by rw [Zkr,List.take_of_length_le (by simp)]
theorem Zp7 {m:List ZbV}:(∀c∈Zbh m,c.length=2)=True:=eq_true Ztc
theorem Zp8 {m:List ZbV}:(∀c∈Zbh m,∀d∈c,d.one=true)=True:=eq_true Ztd
attribute [go_sem] Zmx Zou Zp6 Zwa ZlN Zks Zp7 Zp8
structure Zac where
 ZB:ZN
 Zq:List ZR
 Zs:List ZR
 Zz:List ZbV
 Zb:List Int
 ZD:List (List UInt8)
 deriving DecidableEq,Inhabited
def Zac.cells (x:Zac):List D:=[.sl (strs x.ZB.Zc.Zv),.sl (Zae x.ZB.Zc.Zm),.int .i64 x.ZB.Zp.ZF,.int .i64 x.ZB.Zp.Zy,.int .i64 x.ZB.Zp.Zs,.sl (Z9 x.ZB.Zp.Ze),.sl (Zaa x.ZB.Zx),.int .i64 x.ZB.ZG.Za.ZF,.int .i64 x.ZB.ZG.Za.Zy,.int .i64 x.ZB.ZG.Za.Zs,.sl (Z9 x.ZB.ZG.Za.Ze),.sl (strs x.ZB.ZG.ZK.Zc.Zv),.sl (Zae x.ZB.ZG.ZK.Zc.Zm),.int .i64 x.ZB.ZG.ZK.Zs,.sl (ints x.ZB.ZG.ZK.ZH),.sl (ints x.ZB.ZG.ZK.Zg),.sl (ints x.ZB.ZG.ZK.Zf),.int .i64 x.ZB.ZG.Zy,.bool x.ZB.ZL,.bool x.ZB.Zd,.sl (Zaj x.Zq),.sl (Zaj x.Zs),.sl (Zbh x.Zz),.sl (ints x.Zb),.sl (strs x.ZD)]
def Zac.zero:Zac:=⟨ZN.zero,[],[],[],[],[]⟩
theorem Zac.cells_eq {p:Zac}:p.cells=[.sl (strs p.ZB.Zc.Zv),.sl (Zae p.ZB.Zc.Zm),.int .i64 p.ZB.Zp.ZF,.int .i64 p.ZB.Zp.Zy,.int .i64 p.ZB.Zp.Zs,.sl (Z9 p.ZB.Zp.Ze),.sl (Zaa p.ZB.Zx),.int .i64 p.ZB.ZG.Za.ZF,.int .i64 p.ZB.ZG.Za.Zy,.int .i64 p.ZB.ZG.Za.Zs,.sl (Z9 p.ZB.ZG.Za.Ze),.sl (strs p.ZB.ZG.ZK.Zc.Zv),.sl (Zae p.ZB.ZG.ZK.Zc.Zm),.int .i64 p.ZB.ZG.ZK.Zs,.sl (ints p.ZB.ZG.ZK.ZH),.sl (ints p.ZB.ZG.ZK.Zg),.sl (ints p.ZB.ZG.ZK.Zf),.int .i64 p.ZB.ZG.Zy,.bool p.ZB.ZL,.bool p.ZB.Zd,.sl (Zaj p.Zq),.sl (Zaj p.Zs),.sl (Zbh p.Zz),.sl (ints p.Zb),.sl (strs p.ZD)]:=rfl
theorem Zs9 {p:Zac}:(⟨⟨⟨p.ZB.Zc.Zv,p.ZB.Zc.Zm⟩,⟨p.ZB.Zp.ZF,p.ZB.Zp.Zy,p.ZB.Zp.Zs,p.ZB.Zp.Ze⟩,p.ZB.Zx,⟨⟨p.ZB.ZG.Za.ZF,p.ZB.ZG.Za.Zy,p.ZB.ZG.Za.Zs,p.ZB.ZG.Za.Ze⟩,⟨⟨p.ZB.ZG.ZK.Zc.Zv,p.ZB.ZG.ZK.Zc.Zm⟩,p.ZB.ZG.ZK.Zs,p.ZB.ZG.ZK.ZH,p.ZB.ZG.ZK.Zg,p.ZB.ZG.ZK.Zf⟩,p.ZB.ZG.Zy⟩,p.ZB.ZL,p.ZB.Zd⟩,p.Zq,p.Zs,p.Zz,p.Zb,p.ZD⟩:Zac)=p:=rfl
attribute [go_sem] Zs9
end Go.Rx
namespace Go.Rx
open Go
theorem ZhD {a:List UInt8}:Zax a a=false:=by
 induction a with
 |nil=>rfl
 |cons x xs ih=>simp [Zax,Op.bytesLess] at*;exact ih
theorem ZvY {b:List UInt8}:Zax [] b=true↔b≠ []:=by cases b<;>simp [Zax,Op.bytesLess]
theorem Zs6 {a b:UInt8} {xs ys:List UInt8}:Zax (a::xs) (b::ys)=true↔a<b∨a=b∧Zax xs ys=true:=by
 unfold Zax;simp [Op.bytesLess];try (constructor<;>intro h<;>omega)
theorem Zfc:∀ {a b c:List UInt8},Zax a b=true→Zax b c=true→Zax a c=true
 |[],b,[],_,h=>by cases b<;>simp [Zax,Op.bytesLess] at h
 |[],_,_::_,_,_=>ZvY.2 (by simp)
 |_::_,[],_,h,_=>by simp [Zax,Op.bytesLess] at h
 |_::_,_::_,[],_,h=>by simp [Zax,Op.bytesLess] at h
 |a::xs,b::ys,c::zs,h1,h2=>by
  rw [Zs6] at h1 h2 ⊢;rcases h1 with h1|⟨rfl,h1⟩
  ·rcases h2 with h2|⟨rfl,h2⟩
   ·exact .inl (UInt8.lt_trans h1 h2)
   ·exact .inl h1
  ·rcases h2 with h2|⟨rfl,h2⟩
   ·exact .inl h2
   ·exact .inr ⟨rfl,Zfc h1 h2⟩
theorem Zoo {a b:List UInt8} (h1:Zax a b=false) (h2:Zax b a=false):a=b:=by
 have:=Zfd a b;rw [h1,h2] at this;simpa using this
theorem Zrp {a b:List UInt8} (h:Zax a b=true):a≠b:=fun e=>by rw [e,ZhD] at h;cases h
end Go.Rx
namespace Go.Rx
open Go Go.RowKit Go.ChangeShapes Go.WideShapes Go.ChangeAt
section
variable {H:Type} {enc:TypeId×Value→H} {P:Program}
theorem ZgX (hl:laidOutB P=true) {W W':World} (hb:Below W.heap.size W W'):∀ {ts:List TypeId} {vs:List Value} {ds:List (DataW H)} {ps:List MemPlace},
  (∀t∈ts,P.readableRec t=true∧t<P.types.size)→DataW.TrodAll enc P W 0 (fun _=>true) true ts vs ds ps→(∀x∈ps,x.block<W.heap.size)→
  DataW.TrodAll enc P W' 0 (fun b=>decide (b<W.heap.size)) true ts vs ds ps
 |[],[],[],ps,_,h,_=>h
 |[],[],_::_,_,_,h,_=>h.elim
 |[],_::_,_,_,_,h,_=>h.elim
 |_::_,[],_,_,_,h,_=>h.elim
 |_::_,_::_,[],_,_,h,_=>h.elim
 |t::ts,v::vs,d::ds,ps,ht,⟨p,q,h1,h2,e⟩,hlt=>
  ⟨p,q,Below.trod hl (ht t (by simp)).1 (ht t (by simp)).2 h1 hb (fun x hx=>hlt x (by rw [e];simp [hx])),
   ZgX hl hb (fun t' h'=>ht t' (by simp [h'])) h2 (fun x hx=>hlt x (by rw [e];simp [hx])),e⟩
theorem law_calls {n:FuncId} {f:Func} {s:ChangeSpec} {W:World} {args:Array Value} {ds:List (DataW H)} {before:List MemPlace} {t:TypeId} {xs:List D} {outs:List V}
  (hl:laidOutB P=true) (hts:∀t∈f.params.toList,P.readableRec t=true∧t<P.types.size) (hres:f.resultTypes= #[t]) (hbool:P.underlying t=some .bool) (hvars:s.vars=[])
  (hr:(s.fn H ds).results=[.lit (.bool true)]) (ha:(s.fn H ds).args=ds) (hv:(s.fn H ds).vars=[])
  (hW:DataW.Whole enc P f.params.toList s.vars false W args.toList ds [] before)
  (hc:ZQ P n (xs.map .d) [] outs (.d (.bool true)) [])
  (hlen:xs.length=args.toList.length) (hx:∀(i:Nat) x v,xs[i]? =some x→args.toList[i]? =some v→DRel W (fun b=>b<W.heap.size) x v):
  Calls P n args W fun e W'=>∃v,e= .returned v∧s.post enc P f false true false false W args v W':=by
 have h0:=hc.2 W args.toList (fun _=>none) (fun b=>b<W.heap.size)
  ⟨fun n n' b h=>absurd rfl h,fun n b h=>absurd rfl h,fun n b h=>absurd rfl h,fun b h=>h,fun n o h=>by cases h⟩ (by simpa using hlen) (fun i x v h1 h2=>by
   rw [List.getElem?_map] at h1;cases hxi:xs[i]? with
   |none=>rw [hxi] at h1;cases h1
   |some y=>rw [hxi] at h1;cases h1;exact .d (hx i y v hxi h2))
 have h0':Calls P n args W _:=h0;refine h0'.mono fun e W' ⟨v,lam',ok',he,hf,_,hrel,_⟩=>?_;cases hrel with|d hd=>
 cases hd with|bool=>
 have hb:Below W.heap.size W W':=⟨hf.os,hf.tape,hf.output,hf.size,fun k hk=>hf.block k hk (fun ⟨n,h1,_⟩=>h1 rfl)⟩;refine ⟨_,he,ds,[],before,[],before,[],hW,?_,?_,?_,hb.frame _,fun h=>by cases h⟩
 ·rw [hres,List.append_nil,hr];exact trodAll_mk1 (shut_bool hbool true)
 ·obtain ⟨p,q,h1,h2,rfl,_⟩:=hW;rw [hvars] at h2;obtain ⟨_,rfl⟩:=trodVars_none h2;rw [List.append_nil,ha,List.append_nil];refine ZgX hl hb hts h1 fun x hx=>?_;exact DataW.TrodAll.lt h1 x hx
 ·rw [hvars,List.append_nil,hv];rfl
def Opn (P:Program) (enc:TypeId×Value→H) (t:TypeId) {α:Type} (cells:α→List D) (ok:α→Prop):Prop:=
 ∀(W:World) (n:Nat) (vs:List Value) (y:DataW H×List MemPlace),DataW.trod enc P W 0 (fun _=>true) true n t vs=some y→
  ∃a,Rel2 (DRel W (fun b=>b<W.heap.size)) (cells a) vs∧ok a
theorem ZeY {W:World} {ok:Nat→Prop} {d:D} {v:Value} (h:DRel W ok d v):Rel2 (DRel W ok) [d] [v]:=Rel2.cons h (Rel2.nil _)
theorem opn_int {t:TypeId} {k:IntKind} (ht:P.underlying t=some (.int k)):Opn P enc t (fun n:Int=> [.int k n]) (fun _=>True):=fun W n vs y h=>by
 obtain ⟨x,rfl,_,_⟩:=DataW.trod_int ht h;exact ⟨x,ZeY (.int k x),trivial⟩
theorem opn_byte {t:TypeId} (ht:P.underlying t=some (.int .u8)):Opn P enc t ZaU (fun _=>True):=fun W n vs y h=>by
 obtain ⟨k,rfl,_,hw⟩:=DataW.trod_int ht h;simp only [Lit.wf,Bool.and_eq_true,decide_eq_true_eq] at hw;have h1:IntKind.u8.min=0:=rfl;have h2:IntKind.u8.max=255:=rfl;rw [h1,h2] at hw;have:k=((UInt8.ofNat k.toNat).toNat:Int):=by simp;omega
 refine ⟨UInt8.ofNat k.toNat,?_,trivial⟩;unfold ZaU;rw [←this];exact ZeY (.int _ _)
theorem opn_bool {t:TypeId} (ht:P.underlying t=some .bool):Opn P enc t (fun b:Bool=> [.bool b]) (fun _=>True):=fun W n vs y h=>by
 obtain ⟨b,rfl,_⟩:=DataW.trod_bool ht h;exact ⟨b,ZeY (.bool b),trivial⟩
theorem opn_str {t:TypeId} (ht:P.underlying t=some .string):Opn P enc t (fun s:List UInt8=> [.str s]) (fun s=>s.length≤LEN):=fun W n vs y h=>by
 obtain ⟨s,rfl,_,hs⟩:=DataW.trod_string ht h;have hmax:maxLen=LEN:=rfl;exact ⟨s.data.toList,ZeY (.str _ (hmax▸(by simpa using hs))),hmax▸(by simpa using hs)⟩
theorem opn_slice {t e:TypeId} {m:Nat} {α:Type} [Inhabited α] {cells:α→List D} {ok:α→Prop} (ht:P.underlying t=some (.slice e)) (ce:P.cellsOf e=m) (hm:0<m) (hcl:∀a,(cells a).length=m) (ho:Opn P enc e cells ok):
  Opn P enc t (fun l:List α=> [.sl (l.map cells)]) (fun l=>l.length≤LEN∧∀a∈l,ok a):=fun W n vs y h=>by
 rcases Go.Deep.open_slice ht h with ⟨rfl,_⟩|⟨a,len,cap,k,n',D0,Pl,rfl,_,hl,hmx,hk,_,hx⟩
 ·exact ⟨[],ZeY (.sl0 none 0),by simp,by simp⟩
 have hmax:maxLen=LEN:=rfl;simp only [if_true] at hk;subst hk;by_cases hlen:len=0
 ·subst hlen;exact ⟨[],ZeY (.sl0 _ _),by simp,by simp⟩
 have each:∀i,i<k→∃q:α×List Value,W.cells? 0 (a.add (i*m)) m=some q.2∧Rel2 (DRel W (fun b=>b<W.heap.size)) (cells q.1) q.2∧ok q.1:=fun i hi=>by
  obtain ⟨cs',g1,g2⟩:=hx i hi;rw [ce] at g1;obtain ⟨b,hb,hob⟩:=ho W n' cs' _ g2;exact ⟨(b,cs'),g1,hb,hob⟩
 obtain ⟨q,hq⟩:=Go.Deep.choose_lt each;obtain ⟨b,o,sp⟩:=a;have hfirst:W.cell? ⟨b,o,sp⟩=(q 0).2[0]? :=by
  have:=(World.cells?_some (hq 0 (by omega)).1).2.2 0 hm;rw [Nat.zero_mul] at this;simpa [Addr.add] using this
 have hq0:=(World.cells?_some (hq 0 (by omega)).1).2.1;have hsome:∃v,(q 0).2[0]? =some v:=⟨(q 0).2[0]'(by omega),by simp⟩;obtain ⟨v0,hv0⟩:=hsome;rw [hv0] at hfirst;have hsp:sp=none:=by
  unfold World.cell? at hfirst;split at hfirst
  ·cases sp with
   |none=>rfl
   |some x=>simp at hfirst
  ·cases hfirst
 subst hsp;have hblt:b<W.heap.size:=by
  rcases Nat.lt_or_ge b W.heap.size with h|h
  ·exact h
  ·simp [World.cell?,h] at hfirst
 let xs:List α:=(List.range len).map fun i=>(q i).1
 have hxl:xs.length=len:=by simp [xs]
 have hget:∀(i:Nat) e,(xs.map cells)[i]? =some e→i<len∧e=cells (q i).1:=fun i e hi=>by
  simp only [xs,List.map_map,List.getElem?_map] at hi;rcases Nat.lt_or_ge i len with hil|hil
  ·rw [List.getElem?_range hil] at hi;simp only [Option.map_some,Option.some.injEq,Function.comp_apply] at hi;exact ⟨hil,hi.symm⟩
  ·rw [List.getElem?_eq_none (by simpa using hil)] at hi;cases hi
 have hcell:∀i,i<len→∀j,j<m→W.cell? ⟨b,o+(i*m+j),none⟩=(q i).2[j]? :=fun i hi j hj=>by
  have:=(World.cells?_some (hq i (by omega)).1).2.2 j hj;rw [Go.Deep.add_add,add_plain] at this;exact this
 have hdiv:∀i j,j<m→(i*m+j) / m=i∧(i*m+j)%m=j:=fun i j hj=>by
  constructor
  ·rw [Nat.mul_comm,Nat.mul_add_div hm,Nat.div_eq_of_lt hj,Nat.add_zero]
  ·rw [Nat.mul_comm,Nat.mul_add_mod,Nat.mod_eq_of_lt hj]
 have hjm:∀(i:Nat) e (j:Nat) d,(xs.map cells)[i]? =some e→e[j]? =some d→j<m:=fun i e j d hi hj=>by
  obtain ⟨_,rfl⟩:=hget i e hi;have:=(List.getElem?_eq_some_iff.1 hj).1;rw [hcl] at this;exact this
 refine ⟨xs,ZeY ?_,by rw [hxl];omega,fun x hx'=>?_⟩
 ·have key:=DRel.sl (w:=W) (ok:=fun b=>b<W.heap.size) (xs.map cells) m b o k (fun k=>((q (k / m)).2[k%m]?).getD undef)
   (by rw [List.length_map,hxl];exact hl) (by rw [List.length_map,hxl];omega) hblt (fun e he=>by
    obtain ⟨x,_,rfl⟩:=List.mem_map.1 he;exact hcl x) (fun i e j d hi hj=>by
    have hj':=hjm i e j d hi hj;obtain ⟨hil,rfl⟩:=hget i e hi;obtain ⟨e1,e2⟩:=hdiv i j hj';rw [e1,e2,hcell i hil j hj'];have hl2:=(World.cells?_some (hq i (by omega)).1).2.1;rw [List.getElem?_eq_getElem (by omega)];rfl) (fun i e j d hi hj=>by
    have hj':=hjm i e j d hi hj;obtain ⟨hil,rfl⟩:=hget i e hi;obtain ⟨e1,e2⟩:=hdiv i j hj';rw [e1,e2];have hl2:=(World.cells?_some (hq i (by omega)).1).2.1;have hr:=(hq i (by omega)).2.1;refine hr.2 j d _ hj ?_;rw [List.getElem?_eq_getElem (by omega)];rfl)
  rw [List.length_map,hxl] at key;exact key
 ·obtain ⟨i,hi,rfl⟩:=List.mem_map.1 hx';exact (hq i (by have:=List.mem_range.1 hi;omega)).2.2
theorem opn_cell {W:World} {t:TypeId} {v:Value} {d:DataW H} {ps:List MemPlace} {α:Type} {cell:α→D} {ok:α→Prop} (ho:Opn P enc t (fun a=> [cell a]) ok) (hc:v.cells.toList=[v])
  (h:DataW.Trod enc P W 0 (fun _=>true) true t v d ps):∃a,DRel W (fun b=>b<W.heap.size) (cell a) v∧ok a:=by
 obtain ⟨fuel,h⟩:=h;rw [hc] at h;obtain ⟨a,h1,h2⟩:=ho W fuel _ _ h;exact ⟨a,h1.2 0 _ _ rfl rfl,h2⟩
end
end Go.Rx
