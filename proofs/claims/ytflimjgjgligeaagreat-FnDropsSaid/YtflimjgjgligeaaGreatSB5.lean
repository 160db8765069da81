/-
  Part B5: lemmas on an evaluator over plain data of the model's code, plain laws on lists and numbers, or contracts of functions of the program; each lemma names its conditions.
-/
import Derived.Test.YtflimjgjgligeaaGreatSB4
import Derived.Test.YtflimjgjgligeaaGreatSP3

set_option linter.unusedSimpArgs false
set_option linter.unusedVariables false
set_option maxRecDepth 100000
set_option maxHeartbeats 16000000
namespace Go.Rx
open Go
attribute [local irreducible] Req Way WayG Sel Z2 ZQ Zaz cVC Zai ZaO
theorem ZfO {l:List Key} {k:Key}:(strs l).take l.length++[[D.str k]]=strs (l++[k]):=by rw [Zdz];simp [strs]
def Zgh (w:ZS) (page deep:Int) (key:Key) (b:Bool) (w':ZS) (p:Int):Prop:=
 ZQ Go.Proofs.Tryz.prog 130 [.ref 0 0,.d (.int .i64 page),.d (.int .i64 deep),.d (.str key)] [(0,.box (wV w))] [.ref 0 0,.dead,.dead,.dead]
  (.tup [.d (.int .i64 p),.d (.bool b)]) [(0,.box (wV w'))]
@[go_sem] def hr130:ZW:=hh [[0,1,2,3],[0,1,2,3],[0,1,2,3,10,11],[0,1,2,3,10,11,12],[0],[0,1,2,3,10,12],[0,1,2,3,10,12,13],[0,1,2,3,10,12,13,14],[0],[0,1,2,3,10,12,13,14],[0,1,2,3,10,12,13],[0,1,10,12,13,15,16],[0],[0,1,10,12,13,15],[0,1,10,12,13,14],[0,1,10,12,13,14,17],[0,1,10,12,13,14,17],[0,1,10,12,13,14,17],[0,1,10,12,13,14,17],[0,1,10,12,13,14,17],[0,1,10,12,13,14,17],[0,1,10,12,13,14,17],[0,1,10,12,13,14,17],[0,1,10,12,13,14,17],[0,1,13],[0,1],[0],[0,1,13],[0,1,18,19],[0],[0,1,18,19],[0,19]]
@[go_sem] def hl130:ZW:=hh [[],[],[],[],[],[],[],[],[],[],[],[],[],[],[],[0,1,10,12,13,14,17]]
attribute [go_sem] Go.Proofs.Tryz.results130
set_option maxHeartbeats 8000000 in
theorem Zzq {ours:Int→Prop} {B:List Int} (hB:B.length≤1000) (key:Key):∀(f h:Nat) (w:ZS) (page:Int) (fk:Key) (ps:List ZR) (pg:List Int),f≤8→WOK ours B w→Tre (rdW w.Zc) h page fk ps pg→pg.Nodup→(∀q∈pg,live B w q)→
  match Zhw f w page key with
  |some (w',p)=>Zgh w page (8 - (f:Int)) key true w' p
  |none=>∃w' p,Zgh w page (8 - (f:Int)) key false w' p:=by
 intro f;induction f with
 |zero=>
  intro h w page fk ps pg hf hw ht hn hl;have hsw:=hw.smallW hB;have d8:decide ((8:Int)≤8 - ((0:Nat):Int))=true:=rfl;obtain ⟨n,C,hrd,hfk,hcand,hpg⟩:=ZhK.1 ht;have hrn:ZaH (ZU w.Zc page)=some n:=hrd;have hok:=Zcx _ _ hrd;have hk4:=hok.2.1;refine ⟨w,0,?_⟩;unfold Zgh;refine cof Go.Proofs.Tryz.func130 hr130 hl130 [true,false,false,false] ?_;simp -implicitDefEqProofs only [go_sem,Z8];refine Zal w.Zc page (by have:=hsw.1.1;omega) (by have:=hsw.1.2;omega) rfl ?_;simp -implicitDefEqProofs only [go_sem];refine Zas (ZU w.Zc page) (by have:=Zay hw.disk page;omega) rfl ?_
  rw [hrn];simp only [ZaE];simp -implicitDefEqProofs only [go_sem,d8];repeat ((first|refine rq ?_|fail);simp -implicitDefEqProofs only [go_sem,d8])
  refine ZaT n key (by simp only [LEN];omega) (ls:=[]) (by simp -implicitDefEqProofs only [go_sem,Z1.cells_eq];first|done|rfl) ?_;simp -implicitDefEqProofs only [go_sem,d8,Z8];repeat ((first|refine rq ?_|fail);simp -implicitDefEqProofs only [go_sem,d8,Z8])
 |succ f ih=>
  intro h w page fk ps pg hf hw ht hn hl;have hsw:=hw.smallW hB;have d8:decide ((8:Int)≤8 - ((f+1:Nat):Int))=false:=decide_eq_false (by omega);obtain ⟨n,C,hrd,hfk,hcand,hpg⟩:=ZhK.1 ht;have hrn:ZaH (ZU w.Zc page)=some n:=hrd;have hok:=Zcx _ _ hrd;have hk4:=hok.2.1;cases h with
  |zero=>
   obtain ⟨hleaf,hps,hC⟩:=hcand;have hvl:n.ZJ.length=n.Zj.length:=by have:=hok.2.2.2.2;rw [if_pos hleaf] at this;exact this.1
   rw [Zhw,hrd];simp only [hleaf,if_true];rcases Zlh (key:=key) hok hleaf with ⟨g1,g2⟩|⟨a,x,b,g1,g2,g3,g4,g5,g6,g7⟩
   ·rw [g1,if_pos (by omega)];have da:decide ((-1:Int)<0)=true:=rfl;refine ⟨w,0,?_⟩;unfold Zgh;refine cof Go.Proofs.Tryz.func130 hr130 hl130 [true,false,false,false] ?_;simp -implicitDefEqProofs only [go_sem,Z8];refine Zal w.Zc page (by have:=hsw.1.1;omega) (by have:=hsw.1.2;omega) rfl ?_;simp -implicitDefEqProofs only [go_sem];refine Zas (ZU w.Zc page) (by have:=Zay hw.disk page;omega) rfl ?_;rw [hrn];simp only [ZaE];simp -implicitDefEqProofs only [go_sem,d8];repeat ((first|refine rq ?_|fail);simp -implicitDefEqProofs only [go_sem,d8])
    refine ZaT n key (by simp only [LEN];omega) (ls:=[]) (by simp -implicitDefEqProofs only [go_sem,Z1.cells_eq];first|done|rfl) ?_;rw [g1];simp -implicitDefEqProofs only [go_sem,d8,da,Z8];repeat ((first|refine rq ?_|fail);simp -implicitDefEqProofs only [go_sem,d8,da,Z8])
   ·rw [g2,if_neg (by omega),Int.toNat_natCast,g6];have da:decide ((a.length:Int)<0)=false:=decide_eq_false (by omega);have hal:a.length<n.Zj.length:=by rw [←Ze2 hok hleaf,g1];simp
    have hka:n.Zj[a.length]? =some x.Zi:=by
     have:=List.getElem?_eq_getElem hal;rw [List.getD,this] at g6;rw [this];simpa using g6
    by_cases hxk:x.Zi=key
    ·rw [if_pos hxk];have dx:=decide_eq_true hxk;have hLK:((Zaq n).eraseIdx a.length).map (·.Zi)=n.Zj.eraseIdx a.length:=by rw [Zfw,Zb6 hok hleaf]
     have hLV:((Zaq n).eraseIdx a.length).map (·.ZI)=n.ZJ.eraseIdx a.length:=by
      rw [Zfw];congr 1;simp only [Zaq,List.map_map,Function.comp_def,Zfq];exact List.map_snd_zip (by omega)
     generalize hn':Za2 ((Zaq n).eraseIdx a.length)=n';have hK':n'.Zj=n.Zj.eraseIdx a.length:=by rw [←hn',←hLK];rfl
     have hV':n'.ZJ=n.ZJ.eraseIdx a.length:=by rw [←hn',←hLV];rfl
     have hI':n'.Zk=[]∧n'.Zn=true:=by rw [←hn'];exact ⟨rfl,rfl⟩
     have goal:Zgh w page (8 - ((f+1:Nat):Int)) key (finR w n' page).1 (finR w n' page).2.1 (finR w n' page).2.2:=by
      unfold Zgh;refine cof Go.Proofs.Tryz.func130 hr130 hl130 [true,false,false,false] ?_;simp -implicitDefEqProofs only [go_sem,Z8];refine Zal w.Zc page (by have:=hsw.1.1;omega) (by have:=hsw.1.2;omega) rfl ?_;simp -implicitDefEqProofs only [go_sem];refine Zas (ZU w.Zc page) (by have:=Zay hw.disk page;omega) rfl ?_;rw [hrn];simp only [ZaE];simp -implicitDefEqProofs only [go_sem,d8];repeat ((first|refine rq ?_|fail);simp -implicitDefEqProofs only [go_sem,d8])
      refine ZaT n key (by simp only [LEN];omega) (ls:=[]) (by simp -implicitDefEqProofs only [go_sem,Z1.cells_eq];first|done|rfl) ?_;rw [g2];simp -implicitDefEqProofs only [go_sem,d8,da,hleaf,ZM hka,dx,Z8];repeat ((first|refine rq ?_|fail);simp -implicitDefEqProofs only [go_sem,d8,da,hleaf,ZM hka,dx,Z8])
      refine ZY (α:=Nat) (fun i=>⟨[(0,.ref 0 0),(1,.d (.int .i64 page)),(10,.ref 1 0),(12,.d (.int .i64 a.length)),(13,.ref 2 0),(14,.d (.int .i64 0)),(17,.d (.int .i64 i))],[(0,some (.box [.d (.sl (strs w.Zc.Zv)),.d (.sl (Zae w.Zc.Zm)),.d (.int .i64 w.Zs),.d (.sl (ints w.ZH)),.d (.sl (ints w.Zg)),.d (.sl (ints w.Zf))])),(1,some (.box [.d (.bool true),.d (.sl (strs n.Zj)),.d (.sl (strs n.ZJ)),.d (.sl (ints n.Zk))])),(2,some (.box [.d (.bool true),.own 3 0 (delP n.Zj a.length i).length,.own 4 0 (delP n.ZJ a.length i).length,.own 5 0 0])),(3,some (.arr 1 (strs (delP n.Zj a.length i)))),(4,some (.arr 1 (strs (delP n.ZJ a.length i)))),(5,some (.arr 1 []))]⟩)
       (fun i=>i≤n.Zj.length) (fun i=>n.Zj.length - i) 0 (by rw [Zhy,Zhy];rfl) (Nat.zero_le _) ?_
      rintro i i1;have dl1:=Zi8 (l:=n.Zj) (at_:=a.length) (i:=i);have dl2:=Zi8 (l:=n.ZJ) (at_:=a.length) (i:=i);simp -implicitDefEqProofs only [go_sem];refine fork (fun h55=>?_) (fun h55=>?_)
      ·obtain ⟨ki,hki⟩:=Z3 h55;obtain ⟨vi,hvi⟩:∃vi,n.ZJ[i]? =some vi:=⟨_,List.getElem?_eq_getElem (by omega)⟩;by_cases hia:i=a.length
       ·subst hia;have dia:decide (((a.length:Nat):Int)=(a.length:Int))=true:=decide_eq_true rfl;simp -implicitDefEqProofs only [go_sem,dia];repeat ((first|refine rq ?_|refine way (fun h=>absurd h (by simp)) (fun _=>?_)|refine way (fun _=>?_) (fun h=>absurd h (by simp))|fail);simp -implicitDefEqProofs only [go_sem,dia])
        rw [ZV (by simp only [LEN];omega)];exact ZP (a.length+1) (by rw [Zmo,Zmo]) (by omega) (by omega)
       ·have dia:decide ((i:Int)=(a.length:Int))=false:=decide_eq_false (by omega);have hJ:=Zmn (at_:=a.length) hki hia;have hJ2:=Zmn (at_:=a.length) hvi hia;simp -implicitDefEqProofs only [go_sem,dia,ZM hki,ZM hvi];repeat ((first|refine rq ?_|refine way (fun h=>absurd h (by simp)) (fun _=>?_)|refine way (fun _=>?_) (fun h=>absurd h (by simp))|fail);simp -implicitDefEqProofs only [go_sem,dia,ZM hki,ZM hvi,ZfO])
        rw [ZV (by simp only [LEN];omega)];refine ZP (i+1) ?_ (by omega) (by omega);simp only [hJ,hJ2,List.length_append,List.length_cons,List.length_nil]
      ·have hi:i=n.Zj.length:=by omega
       subst hi;have e1:delP n.Zj a.length n.Zj.length=n'.Zj:=by rw [Zi9 hal,hK']
       have e2:delP n.ZJ a.length n.Zj.length=n'.ZJ:=by rw [←hvl,Zi9 (by omega),hV']
       rw [e1,e2];rw [e1] at dl1;rw [e2] at dl2;have hcell:n'.cells=[.bool true,.sl (strs n'.Zj),.sl (strs n'.ZJ),.sl []]:=by rw [Z1.cells_eq,hI'.1,hI'.2];rfl
       have hlK:n'.Zj.length≤LEN:=by simp only [LEN];omega
       have hlV:n'.ZJ.length≤LEN:=by simp only [LEN];omega
       have hlI:n'.Zk.length≤LEN:=by rw [hI'.1];simp
       unfold finR;by_cases hk0:n'.Zj=[]
       ·have d0:decide (((n'.Zj.length:Nat):Int)=0)=true:=decide_eq_true (by rw [hk0];rfl);rw [if_pos hk0];have hde:=ZcL (p:=page) hw;simp -implicitDefEqProofs only [go_sem,d0];repeat ((first|refine rq ?_|refine way (fun h=>absurd h (by simp)) (fun _=>?_)|refine way (fun _=>?_) (fun h=>absurd h (by simp))|fail);simp -implicitDefEqProofs only [go_sem,d0])
        refine Zbp w page hsw (by simp -implicitDefEqProofs only [go_sem,ZS.cells_eq];first|done|rfl) ?_;rw [hde];simp -implicitDefEqProofs only [go_sem,ZS.cells_eq,Z8];repeat ((first|refine rq ?_|fail);simp -implicitDefEqProofs only [go_sem,ZS.cells_eq,Z8])
       ·have d0:decide (((n'.Zj.length:Nat):Int)=0)=false:=decide_eq_false (by have:=List.length_pos_iff.2 hk0;omega);rw [if_neg hk0];simp -implicitDefEqProofs only [go_sem,d0];repeat ((first|refine rq ?_|refine way (fun h=>absurd h (by simp)) (fun _=>?_)|refine way (fun _=>?_) (fun h=>absurd h (by simp))|fail);simp -implicitDefEqProofs only [go_sem,d0])
        refine ZuN (xs:=[.agg w.cells,.agg n'.cells]) (Zcb w n' hsw hlK hlV hlI) (by simp -implicitDefEqProofs only [go_sem,ZS.cells_eq,hcell];first|done|rfl) ?_;cases hp:putN w n' with
        |none=>
         have hW:putW w n'=(w,0):=by rw [putW,hp]
         have dz:decide ((0:Int)=0)=true:=rfl;rw [hW];simp -implicitDefEqProofs only [go_sem,dz,ZS.cells_eq,Z8];repeat ((first|refine rq ?_|refine way (fun h=>absurd h (by simp)) (fun _=>?_)|refine way (fun _=>?_) (fun h=>absurd h (by simp))|fail);simp -implicitDefEqProofs only [go_sem,dz,ZS.cells_eq,Z8])
        |some q=>
         obtain ⟨u2,pg2⟩:=q;have hW:putW w n'=(u2,pg2):=by rw [putW,hp]
         have dp:decide (pg2=0)=false:=decide_eq_false (Zcl hp);have hw2:=(ZeD hw hp).ok;have hde:=ZcL (p:=page) hw2;rw [hW];simp -implicitDefEqProofs only [go_sem,dp,ZS.cells_eq,Z8];repeat ((first|refine rq ?_|refine way (fun h=>absurd h (by simp)) (fun _=>?_)|refine way (fun _=>?_) (fun h=>absurd h (by simp))|fail);simp -implicitDefEqProofs only [go_sem,dp,ZS.cells_eq,Z8])
         refine Zbp u2 page (hw2.smallW hB) (by simp -implicitDefEqProofs only [go_sem,ZS.cells_eq];first|done|rfl) ?_;rw [hde];simp -implicitDefEqProofs only [go_sem,ZS.cells_eq,Z8];repeat ((first|refine rq ?_|fail);simp -implicitDefEqProofs only [go_sem,ZS.cells_eq,Z8])
     have he:=Zvm (w:=w) (n:=n') (page:=page);cases hfu:finU w n' page with
     |none=>rw [hfu] at he;simp only at he;rw [he] at goal;exact ⟨_,_,goal⟩
     |some r=>rw [hfu] at he;simp only at he;rw [he] at goal;exact goal
    ·rw [if_neg hxk];have dx:=decide_eq_false hxk;refine ⟨w,0,?_⟩;unfold Zgh;refine cof Go.Proofs.Tryz.func130 hr130 hl130 [true,false,false,false] ?_;simp -implicitDefEqProofs only [go_sem,Z8];refine Zal w.Zc page (by have:=hsw.1.1;omega) (by have:=hsw.1.2;omega) rfl ?_;simp -implicitDefEqProofs only [go_sem];refine Zas (ZU w.Zc page) (by have:=Zay hw.disk page;omega) rfl ?_;rw [hrn];simp only [ZaE];simp -implicitDefEqProofs only [go_sem,d8];repeat ((first|refine rq ?_|fail);simp -implicitDefEqProofs only [go_sem,d8])
     refine ZaT n key (by simp only [LEN];omega) (ls:=[]) (by simp -implicitDefEqProofs only [go_sem,Z1.cells_eq];first|done|rfl) ?_;rw [g2];simp -implicitDefEqProofs only [go_sem,d8,da,hleaf,ZM hka,dx,Z8];repeat ((first|refine rq ?_|fail);simp -implicitDefEqProofs only [go_sem,d8,da,hleaf,ZM hka,dx,Z8])
     trace_state
  |succ h=>
   obtain ⟨hleaf,ks,h4,h5,h6,h7,h8,h9⟩:=hcand;have hkl:n.Zk.length=n.Zj.length:=by have:=hok.2.2.2.2;rw [if_neg (by rw [hleaf];simp)] at this;exact this.1
   rw [Zhw,hrd];simp only [hleaf,Bool.false_eq_true,if_false];rcases ZiD (key:=key) h4 h5 with ⟨g1,g2⟩|⟨pre,s,post,g1,g2,g3,g4,g5⟩
   ·rw [g1,if_pos (by omega)];have da:decide ((-1:Int)<0)=true:=rfl;refine ⟨w,0,?_⟩;unfold Zgh;refine cof Go.Proofs.Tryz.func130 hr130 hl130 [true,false,false,false] ?_;simp -implicitDefEqProofs only [go_sem,Z8];refine Zal w.Zc page (by have:=hsw.1.1;omega) (by have:=hsw.1.2;omega) rfl ?_;simp -implicitDefEqProofs only [go_sem];refine Zas (ZU w.Zc page) (by have:=Zay hw.disk page;omega) rfl ?_;rw [hrn];simp only [ZaE];simp -implicitDefEqProofs only [go_sem,d8];repeat ((first|refine rq ?_|fail);simp -implicitDefEqProofs only [go_sem,d8])
    refine ZaT n key (by simp only [LEN];omega) (ls:=[]) (by simp -implicitDefEqProofs only [go_sem,Z1.cells_eq];first|done|rfl) ?_;rw [g1];simp -implicitDefEqProofs only [go_sem,d8,da,Z8];repeat ((first|refine rq ?_|fail);simp -implicitDefEqProofs only [go_sem,d8,da,Z8])
   ·rw [g2,if_neg (by omega),Int.toNat_natCast,g5];have da:decide ((pre.length:Int)<0)=false:=decide_eq_false (by omega);have hs:s∈ks:=by rw [g1];simp
    rw [hpg,h9] at hn hl;obtain ⟨n1,n2⟩:=List.nodup_cons.1 hn;have hsp:∀q∈s.pages,q∈ks.flatMap Sub.pages:=fun q hq=>List.mem_flatMap.2 ⟨s,hs,hq⟩
    have hplen:pre.length<n.Zj.length:=by rw [h4,g1];simp
    have hkid:n.Zk[pre.length]? =some s.page:=by rw [h5,g1];simp
    have hih:=ih h w s.page s.fst s.pairs s.pages (by omega) hw (h6 s hs) (ZbA n2 hs) (fun q hq=>hl q (List.mem_cons_of_mem _ (hsp q hq)));have e8w:IntKind.i64.wrap (8 - (f:Int))=8 - (f:Int):=Zad (by omega) (by omega);have e8:(8:Int) - ((f+1:Nat):Int)+1=8 - (f:Int):=by omega
    cases hu:Zhw f w s.page key with
    |none=>
     rw [hu] at hih;obtain ⟨w1,p1,hih⟩:=hih;refine ⟨w1,0,?_⟩;unfold Zgh at hih;unfold Zgh;refine cof Go.Proofs.Tryz.func130 hr130 hl130 [true,false,false,false] ?_;simp -implicitDefEqProofs only [go_sem,Z8];refine Zal w.Zc page (by have:=hsw.1.1;omega) (by have:=hsw.1.2;omega) rfl ?_;simp -implicitDefEqProofs only [go_sem];refine Zas (ZU w.Zc page) (by have:=Zay hw.disk page;omega) rfl ?_;rw [hrn];simp only [ZaE];simp -implicitDefEqProofs only [go_sem,d8];repeat ((first|refine rq ?_|fail);simp -implicitDefEqProofs only [go_sem,d8])
     refine ZaT n key (by simp only [LEN];omega) (ls:=[]) (by simp -implicitDefEqProofs only [go_sem,Z1.cells_eq];first|done|rfl) ?_;rw [g2];simp -implicitDefEqProofs only [go_sem,d8,da,hleaf,ZO hkid,e8,Z8];repeat ((first|refine rq ?_|fail);simp -implicitDefEqProofs only [go_sem,d8,da,hleaf,ZO hkid,e8,Z8])
     refine Za3 false (xs:=[.int .i64 s.page,.int .i64 (8 - (f:Int)),.str key]) hih rfl rfl rfl (by simp -implicitDefEqProofs only [go_sem,e8w];first|done|rfl) rfl rfl rfl rfl (.inr (.inl rfl)) ?_;simp -implicitDefEqProofs only [go_sem,Z8];repeat ((first|refine rq ?_|fail);simp -implicitDefEqProofs only [go_sem,Z8])
    |some r=>
     obtain ⟨w1,k⟩:=r;rw [hu] at hih;simp only at hih ⊢;obtain ⟨hin,pgd,rd1⟩:=Zf6 hw (h6 s hs) (ZbA n2 hs) (fun q hq=>hl q (List.mem_cons_of_mem _ (hsp q hq))) hu;have hw1:=rd1.ok;have hsw1:=hw1.smallW hB;have hkey:∃kx,n.Zj[pre.length]? =some kx:=⟨_,List.getElem?_eq_getElem hplen⟩;obtain ⟨kx,hkx⟩:=hkey;have hes:(n.Zj.zip n.Zk)[pre.length]? =some (kx,s.page):=Zfg hkx hkid;have hged:((n.Zj.zip n.Zk).getD pre.length ([],0)).1=kx:=by rw [List.getD,hes];rfl
     rw [hged];have hesf:=Zyl hkl;have hess:=Zyk hkl;have goal:Zgh w page (8 - ((f+1:Nat):Int)) key (finR w1 (Z0 (if k=0 then (n.Zj.zip n.Zk).eraseIdx pre.length else (n.Zj.zip n.Zk).set pre.length (kx,k))) page).1
       (finR w1 (Z0 (if k=0 then (n.Zj.zip n.Zk).eraseIdx pre.length else (n.Zj.zip n.Zk).set pre.length (kx,k))) page).2.1
       (finR w1 (Z0 (if k=0 then (n.Zj.zip n.Zk).eraseIdx pre.length else (n.Zj.zip n.Zk).set pre.length (kx,k))) page).2.2:=by
      unfold Zgh at hih;by_cases hk:k=0
      ·have dk:=decide_eq_true hk;rw [if_pos hk];generalize hn':Z0 ((n.Zj.zip n.Zk).eraseIdx pre.length)=n';have hK':n'.Zj=n.Zj.eraseIdx pre.length:=by rw [←hn'];show ((n.Zj.zip n.Zk).eraseIdx pre.length).map (·.1)=_;rw [Zfw,hesf]
       have hI':n'.Zk=n.Zk.eraseIdx pre.length:=by rw [←hn'];show ((n.Zj.zip n.Zk).eraseIdx pre.length).map (·.2)=_;rw [Zfw,hess]
       have hV':n'.ZJ=[]∧n'.Zn=false:=by rw [←hn'];exact ⟨rfl,rfl⟩
       unfold Zgh;refine cof Go.Proofs.Tryz.func130 hr130 hl130 [true,false,false,false] ?_;simp -implicitDefEqProofs only [go_sem,Z8];refine Zal w.Zc page (by have:=hsw.1.1;omega) (by have:=hsw.1.2;omega) rfl ?_;simp -implicitDefEqProofs only [go_sem];refine Zas (ZU w.Zc page) (by have:=Zay hw.disk page;omega) rfl ?_;rw [hrn];simp only [ZaE];simp -implicitDefEqProofs only [go_sem,d8];repeat ((first|refine rq ?_|fail);simp -implicitDefEqProofs only [go_sem,d8])
       refine ZaT n key (by simp only [LEN];omega) (ls:=[]) (by simp -implicitDefEqProofs only [go_sem,Z1.cells_eq];first|done|rfl) ?_;rw [g2];simp -implicitDefEqProofs only [go_sem,d8,da,hleaf,ZO hkid,e8,Z8];repeat ((first|refine rq ?_|fail);simp -implicitDefEqProofs only [go_sem,d8,da,hleaf,ZO hkid,e8,Z8])
       refine Za3 false (xs:=[.int .i64 s.page,.int .i64 (8 - (f:Int)),.str key]) hih rfl rfl rfl (by simp -implicitDefEqProofs only [go_sem,e8w];first|done|rfl) rfl rfl rfl rfl (.inr (.inl rfl)) ?_;simp -implicitDefEqProofs only [go_sem,Z8];repeat ((first|refine rq ?_|fail);simp -implicitDefEqProofs only [go_sem,Z8])
       refine ZY (α:=Nat) (fun i=>⟨[(0,.ref 0 0),(1,.d (.int .i64 page)),(10,.ref 1 0),(12,.d (.int .i64 pre.length)),(13,.ref 2 0),(14,.d (.int .i64 k)),(17,.d (.int .i64 i))],[(0,some (.box [.d (.sl (strs w1.Zc.Zv)),.d (.sl (Zae w1.Zc.Zm)),.d (.int .i64 w1.Zs),.d (.sl (ints w1.ZH)),.d (.sl (ints w1.Zg)),.d (.sl (ints w1.Zf))])),(1,some (.box [.d (.bool false),.d (.sl (strs n.Zj)),.d (.sl (strs n.ZJ)),.d (.sl (ints n.Zk))])),(2,some (.box [.d (.bool false),.own 3 0 (delP n.Zj pre.length i).length,.own 4 0 0,.own 5 0 (delP n.Zk pre.length i).length])),(3,some (.arr 1 (strs (delP n.Zj pre.length i)))),(4,some (.arr 1 [])),(5,some (.arr 1 (ints (delP n.Zk pre.length i))))]⟩)
        (fun i=>i≤n.Zj.length) (fun i=>n.Zj.length - i) 0 (by rw [Zhy,Zhy];rfl) (Nat.zero_le _) ?_
       rintro i i1;have dl1:=Zi8 (l:=n.Zj) (at_:=pre.length) (i:=i);have dl2:=Zi8 (l:=n.Zk) (at_:=pre.length) (i:=i);simp -implicitDefEqProofs only [go_sem];refine fork (fun h55=>?_) (fun h55=>?_)
       ·obtain ⟨ki,hki⟩:=Z3 h55;obtain ⟨vi,hvi⟩:∃vi,n.Zk[i]? =some vi:=⟨_,List.getElem?_eq_getElem (by omega)⟩;by_cases hia:i=pre.length
        ·subst hia;have dia:decide (((pre.length:Nat):Int)=(pre.length:Int))=true:=decide_eq_true rfl;simp -implicitDefEqProofs only [go_sem,dia,dk];repeat ((first|refine rq ?_|refine way (fun h=>absurd h (by simp)) (fun _=>?_)|refine way (fun _=>?_) (fun h=>absurd h (by simp))|fail);simp -implicitDefEqProofs only [go_sem,dia,dk])
         rw [ZV (by simp only [LEN];omega)];exact ZP (pre.length+1) (by rw [Zmo,Zmo]) (by omega) (by omega)
        ·have dia:decide ((i:Int)=(pre.length:Int))=false:=decide_eq_false (by omega);have hJ:=Zmn (at_:=pre.length) hki hia;have hJ2:=Zmn (at_:=pre.length) hvi hia;simp -implicitDefEqProofs only [go_sem,dia,dk,ZM hki,ZO hvi];repeat ((first|refine rq ?_|refine way (fun h=>absurd h (by simp)) (fun _=>?_)|refine way (fun _=>?_) (fun h=>absurd h (by simp))|fail);simp -implicitDefEqProofs only [go_sem,dia,dk,ZM hki,ZO hvi,ZfO,ZeO])
         rw [ZV (by simp only [LEN];omega)];refine ZP (i+1) ?_ (by omega) (by omega);simp only [hJ,hJ2,List.length_append,List.length_cons,List.length_nil]
       ·have hi:i=n.Zj.length:=by omega
        subst hi;have e1:delP n.Zj pre.length n.Zj.length=n'.Zj:=by rw [Zi9 hplen,hK']
        have e2:delP n.Zk pre.length n.Zj.length=n'.Zk:=by rw [←hkl,Zi9 (by omega),hI']
        rw [e1,e2];rw [e1] at dl1;rw [e2] at dl2;have hcell:n'.cells=[.bool false,.sl (strs n'.Zj),.sl [],.sl (ints n'.Zk)]:=by rw [Z1.cells_eq,hV'.1,hV'.2];rfl
        have hlK:n'.Zj.length≤LEN:=by simp only [LEN];omega
        have hlI:n'.Zk.length≤LEN:=by simp only [LEN];omega
        have hlV:n'.ZJ.length≤LEN:=by rw [hV'.1];simp
        unfold finR;by_cases hk0:n'.Zj=[]
        ·have d0:decide (((n'.Zj.length:Nat):Int)=0)=true:=decide_eq_true (by rw [hk0];rfl);rw [if_pos hk0];have hde:=ZcL (p:=page) hw1;simp -implicitDefEqProofs only [go_sem,d0];repeat ((first|refine rq ?_|refine way (fun h=>absurd h (by simp)) (fun _=>?_)|refine way (fun _=>?_) (fun h=>absurd h (by simp))|fail);simp -implicitDefEqProofs only [go_sem,d0])
         refine Zbp w1 page hsw1 (by simp -implicitDefEqProofs only [go_sem,ZS.cells_eq];first|done|rfl) ?_;rw [hde];simp -implicitDefEqProofs only [go_sem,ZS.cells_eq,Z8];repeat ((first|refine rq ?_|fail);simp -implicitDefEqProofs only [go_sem,ZS.cells_eq,Z8])
        ·have d0:decide (((n'.Zj.length:Nat):Int)=0)=false:=decide_eq_false (by have:=List.length_pos_iff.2 hk0;omega);rw [if_neg hk0];simp -implicitDefEqProofs only [go_sem,d0];repeat ((first|refine rq ?_|refine way (fun h=>absurd h (by simp)) (fun _=>?_)|refine way (fun _=>?_) (fun h=>absurd h (by simp))|fail);simp -implicitDefEqProofs only [go_sem,d0])
         refine ZuN (xs:=[.agg w1.cells,.agg n'.cells]) (Zcb w1 n' hsw1 hlK hlV hlI) (by simp -implicitDefEqProofs only [go_sem,ZS.cells_eq,hcell];first|done|rfl) ?_;cases hp:putN w1 n' with
         |none=>
          have hW:putW w1 n'=(w1,0):=by rw [putW,hp]
          have dz:decide ((0:Int)=0)=true:=rfl;rw [hW];simp -implicitDefEqProofs only [go_sem,dz,ZS.cells_eq,Z8];repeat ((first|refine rq ?_|refine way (fun h=>absurd h (by simp)) (fun _=>?_)|refine way (fun _=>?_) (fun h=>absurd h (by simp))|fail);simp -implicitDefEqProofs only [go_sem,dz,ZS.cells_eq,Z8])
         |some q=>
          obtain ⟨u2,pg2⟩:=q;have hW:putW w1 n'=(u2,pg2):=by rw [putW,hp]
          have dp:decide (pg2=0)=false:=decide_eq_false (Zcl hp);have hw2:=(ZeD hw1 hp).ok;have hde:=ZcL (p:=page) hw2;rw [hW];simp -implicitDefEqProofs only [go_sem,dp,ZS.cells_eq,Z8];repeat ((first|refine rq ?_|refine way (fun h=>absurd h (by simp)) (fun _=>?_)|refine way (fun _=>?_) (fun h=>absurd h (by simp))|fail);simp -implicitDefEqProofs only [go_sem,dp,ZS.cells_eq,Z8])
          refine Zbp u2 page (hw2.smallW hB) (by simp -implicitDefEqProofs only [go_sem,ZS.cells_eq];first|done|rfl) ?_;rw [hde];simp -implicitDefEqProofs only [go_sem,ZS.cells_eq,Z8];repeat ((first|refine rq ?_|fail);simp -implicitDefEqProofs only [go_sem,ZS.cells_eq,Z8])
      ·have dk:=decide_eq_false hk;rw [if_neg hk];generalize hn':Z0 ((n.Zj.zip n.Zk).set pre.length (kx,k))=n';have hK':n'.Zj=n.Zj:=by rw [←hn'];show ((n.Zj.zip n.Zk).set pre.length (kx,k)).map (·.1)=_;rw [List.map_set,hesf];exact ZwH hkx
       have hI':n'.Zk=n.Zk.set pre.length k:=by rw [←hn'];show ((n.Zj.zip n.Zk).set pre.length (kx,k)).map (·.2)=_;rw [List.map_set,hess]
       have hV':n'.ZJ=[]∧n'.Zn=false:=by rw [←hn'];exact ⟨rfl,rfl⟩
       have hIl:n'.Zk.length=n.Zj.length:=by rw [hI',List.length_set,hkl]
       unfold Zgh;refine cof Go.Proofs.Tryz.func130 hr130 hl130 [true,false,false,false] ?_;simp -implicitDefEqProofs only [go_sem,Z8];refine Zal w.Zc page (by have:=hsw.1.1;omega) (by have:=hsw.1.2;omega) rfl ?_;simp -implicitDefEqProofs only [go_sem];refine Zas (ZU w.Zc page) (by have:=Zay hw.disk page;omega) rfl ?_;rw [hrn];simp only [ZaE];simp -implicitDefEqProofs only [go_sem,d8];repeat ((first|refine rq ?_|fail);simp -implicitDefEqProofs only [go_sem,d8])
       refine ZaT n key (by simp only [LEN];omega) (ls:=[]) (by simp -implicitDefEqProofs only [go_sem,Z1.cells_eq];first|done|rfl) ?_;rw [g2];simp -implicitDefEqProofs only [go_sem,d8,da,hleaf,ZO hkid,e8,Z8];repeat ((first|refine rq ?_|fail);simp -implicitDefEqProofs only [go_sem,d8,da,hleaf,ZO hkid,e8,Z8])
       refine Za3 false (xs:=[.int .i64 s.page,.int .i64 (8 - (f:Int)),.str key]) hih rfl rfl rfl (by simp -implicitDefEqProofs only [go_sem,e8w];first|done|rfl) rfl rfl rfl rfl (.inr (.inl rfl)) ?_;simp -implicitDefEqProofs only [go_sem,Z8];repeat ((first|refine rq ?_|fail);simp -implicitDefEqProofs only [go_sem,Z8])
       refine ZY (α:=Nat) (fun i=>⟨[(0,.ref 0 0),(1,.d (.int .i64 page)),(10,.ref 1 0),(12,.d (.int .i64 pre.length)),(13,.ref 2 0),(14,.d (.int .i64 k)),(17,.d (.int .i64 i))],[(0,some (.box [.d (.sl (strs w1.Zc.Zv)),.d (.sl (Zae w1.Zc.Zm)),.d (.int .i64 w1.Zs),.d (.sl (ints w1.ZH)),.d (.sl (ints w1.Zg)),.d (.sl (ints w1.Zf))])),(1,some (.box [.d (.bool false),.d (.sl (strs n.Zj)),.d (.sl (strs n.ZJ)),.d (.sl (ints n.Zk))])),(2,some (.box [.d (.bool false),.own 3 0 (n.Zj.take i).length,.own 4 0 0,.own 5 0 (n'.Zk.take i).length])),(3,some (.arr 1 (strs (n.Zj.take i)))),(4,some (.arr 1 [])),(5,some (.arr 1 (ints (n'.Zk.take i))))]⟩)
        (fun i=>i≤n.Zj.length) (fun i=>n.Zj.length - i) 0 rfl (Nat.zero_le _) ?_
       rintro i i1;have dl1:(n.Zj.take i).length≤n.Zj.length:=by simp;omega
       have dl2:(n'.Zk.take i).length≤n.Zj.length:=by simp;omega
       simp -implicitDefEqProofs only [go_sem];refine fork (fun h55=>?_) (fun h55=>?_)
       ·obtain ⟨ki,hki⟩:=Z3 h55;obtain ⟨vi,hvi⟩:∃vi,n.Zk[i]? =some vi:=⟨_,List.getElem?_eq_getElem (by omega)⟩;have hJ:=Z7 hki;by_cases hia:i=pre.length
        ·subst hia;have dia:decide (((pre.length:Nat):Int)=(pre.length:Int))=true:=decide_eq_true rfl;have hvk:n'.Zk[pre.length]? =some k:=by rw [hI',List.getElem?_set_self (by omega)]
         have hJ2:=Z7 hvk;simp -implicitDefEqProofs only [go_sem,dia,dk,ZM hki,ZO hvi];repeat ((first|refine rq ?_|refine way (fun h=>absurd h (by simp)) (fun _=>?_)|refine way (fun _=>?_) (fun h=>absurd h (by simp))|fail);simp -implicitDefEqProofs only [go_sem,dia,dk,ZM hki,ZO hvi,ZfO,ZeO])
         rw [ZV (by simp only [LEN];omega)];refine ZP (pre.length+1) ?_ (by omega) (by omega);simp only [hJ,hJ2,List.length_append,List.length_cons,List.length_nil]
        ·have dia:decide ((i:Int)=(pre.length:Int))=false:=decide_eq_false (by omega);have hvk:n'.Zk[i]? =some vi:=by rw [hI',List.getElem?_set_ne (by omega)];exact hvi
         have hJ2:=Z7 hvk;simp -implicitDefEqProofs only [go_sem,dia,dk,ZM hki,ZO hvi];repeat ((first|refine rq ?_|refine way (fun h=>absurd h (by simp)) (fun _=>?_)|refine way (fun _=>?_) (fun h=>absurd h (by simp))|fail);simp -implicitDefEqProofs only [go_sem,dia,dk,ZM hki,ZO hvi,ZfO,ZeO])
         rw [ZV (by simp only [LEN];omega)];refine ZP (i+1) ?_ (by omega) (by omega);simp only [hJ,hJ2,List.length_append,List.length_cons,List.length_nil]
       ·have hi:i=n.Zj.length:=by omega
        subst hi;have e1:n.Zj.take n.Zj.length=n'.Zj:=by rw [List.take_length,hK']
        have e2:n'.Zk.take n.Zj.length=n'.Zk:=List.take_of_length_le (by omega);rw [e1,e2];rw [e1] at dl1;rw [e2] at dl2;have hcell:n'.cells=[.bool false,.sl (strs n'.Zj),.sl [],.sl (ints n'.Zk)]:=by rw [Z1.cells_eq,hV'.1,hV'.2];rfl
        have hlK:n'.Zj.length≤LEN:=by simp only [LEN];omega
        have hlI:n'.Zk.length≤LEN:=by simp only [LEN];omega
        have hlV:n'.ZJ.length≤LEN:=by rw [hV'.1];simp
        unfold finR;by_cases hk0:n'.Zj=[]
        ·have d0:decide (((n'.Zj.length:Nat):Int)=0)=true:=decide_eq_true (by rw [hk0];rfl);rw [if_pos hk0];have hde:=ZcL (p:=page) hw1;simp -implicitDefEqProofs only [go_sem,d0];repeat ((first|refine rq ?_|refine way (fun h=>absurd h (by simp)) (fun _=>?_)|refine way (fun _=>?_) (fun h=>absurd h (by simp))|fail);simp -implicitDefEqProofs only [go_sem,d0])
         refine Zbp w1 page hsw1 (by simp -implicitDefEqProofs only [go_sem,ZS.cells_eq];first|done|rfl) ?_;rw [hde];simp -implicitDefEqProofs only [go_sem,ZS.cells_eq,Z8];repeat ((first|refine rq ?_|fail);simp -implicitDefEqProofs only [go_sem,ZS.cells_eq,Z8])
        ·have d0:decide (((n'.Zj.length:Nat):Int)=0)=false:=decide_eq_false (by have:=List.length_pos_iff.2 hk0;omega);rw [if_neg hk0];simp -implicitDefEqProofs only [go_sem,d0];repeat ((first|refine rq ?_|refine way (fun h=>absurd h (by simp)) (fun _=>?_)|refine way (fun _=>?_) (fun h=>absurd h (by simp))|fail);simp -implicitDefEqProofs only [go_sem,d0])
         refine ZuN (xs:=[.agg w1.cells,.agg n'.cells]) (Zcb w1 n' hsw1 hlK hlV hlI) (by simp -implicitDefEqProofs only [go_sem,ZS.cells_eq,hcell];first|done|rfl) ?_;cases hp:putN w1 n' with
         |none=>
          have hW:putW w1 n'=(w1,0):=by rw [putW,hp]
          have dz:decide ((0:Int)=0)=true:=rfl;rw [hW];simp -implicitDefEqProofs only [go_sem,dz,ZS.cells_eq,Z8];repeat ((first|refine rq ?_|refine way (fun h=>absurd h (by simp)) (fun _=>?_)|refine way (fun _=>?_) (fun h=>absurd h (by simp))|fail);simp -implicitDefEqProofs only [go_sem,dz,ZS.cells_eq,Z8])
         |some q=>
          obtain ⟨u2,pg2⟩:=q;have hW:putW w1 n'=(u2,pg2):=by rw [putW,hp]
          have dp:decide (pg2=0)=false:=decide_eq_false (Zcl hp);have hw2:=(ZeD hw1 hp).ok;have hde:=ZcL (p:=page) hw2;rw [hW];simp -implicitDefEqProofs only [go_sem,dp,ZS.cells_eq,Z8];repeat ((first|refine rq ?_|refine way (fun h=>absurd h (by simp)) (fun _=>?_)|refine way (fun _=>?_) (fun h=>absurd h (by simp))|fail);simp -implicitDefEqProofs only [go_sem,dp,ZS.cells_eq,Z8])
          refine Zbp u2 page (hw2.smallW hB) (by simp -implicitDefEqProofs only [go_sem,ZS.cells_eq];first|done|rfl) ?_;rw [hde];simp -implicitDefEqProofs only [go_sem,ZS.cells_eq,Z8];repeat ((first|refine rq ?_|fail);simp -implicitDefEqProofs only [go_sem,ZS.cells_eq,Z8])
     have he:=Zvm (w:=w1) (n:=Z0 (if k=0 then (n.Zj.zip n.Zk).eraseIdx pre.length else (n.Zj.zip n.Zk).set pre.length (kx,k))) (page:=page);cases hfu:finU w1 (Z0 (if k=0 then (n.Zj.zip n.Zk).eraseIdx pre.length else (n.Zj.zip n.Zk).set pre.length (kx,k))) page with
     |none=>rw [hfu] at he;simp only at he;rw [he] at goal;exact ⟨_,_,goal⟩
     |some r=>rw [hfu] at he;simp only at he;rw [he] at goal;exact goal
end Go.Rx
