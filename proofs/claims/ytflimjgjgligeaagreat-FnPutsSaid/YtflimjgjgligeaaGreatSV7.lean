/-
  Part V7: lemmas on an evaluator over plain data of the model's code, plain laws on lists and numbers, or contracts of functions of the program; each lemma names its conditions.
-/
import Derived.Test.YtflimjgjgligeaaGreatSA1
import Derived.Test.YtflimjgjgligeaaGreatSA8
import Derived.Test.YtflimjgjgligeaaGreatSB1
import Derived.Test.YtflimjgjgligeaaGreatSB4
import Derived.Test.YtflimjgjgligeaaGreatSE1
import Derived.Test.YtflimjgjgligeaaGreatSE2
import Derived.Test.YtflimjgjgligeaaGreatSE4
import Derived.Test.YtflimjgjgligeaaGreatSE6
import Derived.Test.YtflimjgjgligeaaGreatSG3
import Derived.Test.YtflimjgjgligeaaGreatSNA
import Derived.Test.YtflimjgjgligeaaGreatSNB
import Derived.Test.YtflimjgjgligeaaGreatSP1
import Derived.Test.YtflimjgjgligeaaGreatSP2
import Derived.Test.YtflimjgjgligeaaGreatSP3
import Derived.Test.YtflimjgjgligeaaGreatSP4
import Derived.Test.YtflimjgjgligeaaGreatSP5
import Derived.Test.YtflimjgjgligeaaGreatSQX
import Derived.Test.YtflimjgjgligeaaGreatSR0

set_option linter.unusedSimpArgs false
set_option linter.unusedVariables false
set_option maxRecDepth 100000
set_option maxHeartbeats 16000000
set_option linter.defProp false
namespace Go.Rx
open Go
def ZE6:Nat→Cur→List Int×Cur
 |0,c=>([],c)
 |k+1,c=>((ZE6 k c).1++[((ZE6 k c).2.below 10000).1],((ZE6 k c).2.below 10000).2)
def ZE7 (code:List UInt8):List Int:=(ZE6 12 (Cur.new code).byte.2).1
theorem ZE8:∀ {k:Nat} {c:Cur},(ZE6 k c).1.length=k
 |0,c=>rfl
 |k+1,c=>by simp [ZE6,ZE8]
theorem ZFa:∀ {k:Nat} {c:Cur},c.ok→(ZE6 k c).2.ok
 |0,c,h=>h
 |k+1,c,h=>Cur.below_ok (ZFa h)
theorem ZE9:∀ {k:Nat} {c:Cur},∀x∈(ZE6 k c).1,0≤x∧x<10000
 |0,c,x,hx=>by cases hx
 |k+1,c,x,hx=>by
  simp only [ZE6,List.mem_append,List.mem_singleton] at hx;rcases hx with hx|rfl
  ·exact ZE9 x hx
  ·exact Cur.below_range (by decide)
theorem ZFf {code:List UInt8}:(ZE7 code).length=12:=ZE8
theorem ZFe {code:List UInt8}:∀x∈ZE7 code,0≤x∧x<10000:=ZE9
end Go.Rx

namespace Go.Rx
open Go
theorem ZFd {d0:ZT} {m:ZX} {oldest:Int} {pg0:List Int}:∀ {f i:Nat} {c:Cur} {t:GTxn} {ps:List ZR} {pg:List Int},ZcB d0 m oldest pg0 t ps pg→∃ps pg,ZcB d0 m oldest pg0 (Zky f i c t).1 ps pg
 |0,_,_,_,ps,pg,h=>⟨ps,pg,h⟩
 |f+1,i,c,t,ps,pg,h=>by
  rw [Zky];split
  ·obtain ⟨ps',pg',h2⟩:=ZoH (c:=(c.below 6).2) h;exact ZFd h2
  ·exact ⟨ps,pg,h⟩
theorem ZFg {c:Cur}:∃s ps0 pg0 next view ps pg,Zap s ps0 pg0 next view∧s=(Zbr c).1.ZB∧ZcB s.Zc s.Zp (Zco s) pg0 (txnD c).1 ps pg:=by
 obtain ⟨pg0,view,h⟩:=ZrH (c:=c);obtain ⟨ps,pg,h2⟩:=ZFd (f:=6) (i:=0) (c:=(Zbr c).2) (ZlJ (oldest:=Zco (Zbr c).1.ZB) h.store.disk);exact ⟨_,_,_,_,_,ps,pg,h.store,rfl,h2⟩
end Go.Rx

namespace Go.Rx
open Go
attribute [local irreducible] Req Way WayG Sel Z2 ZQ Zaz cVC Zai ZaO
theorem ZFc (code:List UInt8) (hl:code.length≤1048576):ZQ Go.Proofs.Tryz.prog 17 [.d (.sl (bys code))] [] [.dead] (.d (.sl (ints (ZE7 code)))) []:=by
 refine cofF Go.Proofs.Tryz.func17 hr17 hl17 ?_;have o1:=Cur.new_ok hl;have o2:=Cur.byte_ok o1;simp -implicitDefEqProofs only [go_sem];refine Znr code hl rfl ?_;simp -implicitDefEqProofs only [go_sem,Cur.cells];repeat ((first|refine ZeK (Cur.new code) o1 rfl rfl rfl rfl ?_|refine rq ?_|fail);simp -implicitDefEqProofs only [go_sem,Cur.cells])
 refine ZY (α:=Nat) (fun i=>⟨[(3,.ref 0 0),(4,.own 1 0 i),(5,.d (.int .i64 i))],[(0,some (.box (ZE6 i (Cur.new code).byte.2).2.cells)),(1,some (.arr 1 (ints (ZE6 i (Cur.new code).byte.2).1)))]⟩)
  (fun i=>i≤12) (fun i=>12 - i) 0 rfl (by omega) ?_
 rintro i h1;have o3:=ZFa (k:=i) o2;have hlen:=ZE8 (k:=i) (c:=(Cur.new code).byte.2);simp -implicitDefEqProofs only [go_sem];refine fork (fun h2=>?_) (fun h2=>?_)
 ·simp -implicitDefEqProofs only [go_sem,Cur.cells];repeat ((first|refine Za0 (ZE6 i (Cur.new code).byte.2).2 10000 o3 rfl rfl rfl rfl ?_|refine rq ?_|fail);simp -implicitDefEqProofs only [go_sem,Cur.cells])
  rw [ZV (by simp only [LEN];omega)];refine ZP (i+1) ?_ (by omega) (by omega);simp [ZE6,ints,hlen,Cur.cells];rw [List.take_of_length_le (by simp [hlen])]
 ·obtain rfl:i=12:=by omega
  have ht:(ints (ZE6 12 (Cur.new code).byte.2).1).take 12=ints (ZE7 code):=by rw [List.take_of_length_le (by simp [ints,hlen])];rfl
  simp -implicitDefEqProofs only [go_sem,Cur.cells,ht]
def ZFb (code:List UInt8) (hl:code.length≤1048576):=kf (ZFc code hl)
def ZFj {ours:Int→Prop} {B:List Int} {ps:List ZR} {pg:List Int} (w:ZS) (root:Int) (key val:Key) (hB:B.length≤1000) (hx:Txs ours B w root ps pg):=kf (ZvC w root key val hB hx)
theorem ZFk {d0:ZT} {m:ZX} {oldest:Int} {pg0 pg:List Int} {ps0 ps:List ZR} {t:GTxn} (hD:ZaX d0 m ps0 pg0) (h:ZcB d0 m oldest pg0 t ps pg):Zdp (rdW (Za6 t.ZK.Zc)) t.Za.Zy ps0 pg0:=by
 rw [Zwy,h.base];exact hD.tree.frame fun q hq=>by unfold rdW;rw [h.text hD.late (ZcG hD (Int.le_refl _) (.inl hq))]
theorem ZFl {d0:ZT} {m:ZX} {oldest:Int} {pg0 pg:List Int} {ps0 ps:List ZR} {t:GTxn} {w:ZS} (hD:ZaX d0 m ps0 pg0) (h:ZcB d0 m oldest pg0 t ps pg) (hf:∀q,¬Zef m oldest q→rdW w.Zc q=rdW t.ZK.Zc q):Zdp (rdW w.Zc) t.Za.Zy ps0 pg0:=by
 rw [h.base];exact hD.tree.frame fun q hq=>by
  by_cases ho:Zef m oldest q
  ·exact absurd ho (ZcG hD (Int.le_refl _) (.inl hq))
  ·rw [hf q ho];unfold rdW;rw [h.text hD.late ho]
theorem ZFh {d:ZT} {root:Int} {ps:List ZR} {pg:List Int} (h:Zdp (rdW d) root ps pg):ps.length≤131072:=by
 obtain ⟨m,c,e⟩:=ZiY h;have:=(@ZuH d root).2.1;rw [e] at this;exact this
theorem ZFm {m:ZX} (h:Za8 m) {i j:Nat} {f:Zau} {p:Int} (hf:m.Ze[i]? =some f) (hp:f.Zv[j]? =some p):decide (m.Zy=p)=false:=by
 refine decide_eq_false fun e=>?_;have:=(List.nodup_cons.1 h.2.2.2).1;exact this (List.mem_flatMap.2 ⟨f,List.mem_of_getElem? hf,e▸List.mem_of_getElem? hp⟩)
@[go_sem] def hr10:ZW:=hh [[0],[0],[],[0],[0,3],[3,4],[3,4,5],[3,5,6],[3,5,6,7,8,9],[3,5,6,7,8,9,10,11,12],[],[3,5,6,7,8,9],[3,7,8],[3,5,6,7,8],[3,5,6,7,8,13],[3,5,6,7,8,13,14],[3,5,6,7,8,13,14],[3,5,6,7,8,13,14],[3,5,6,7,8,13,14,15],[3,5,6,7,8,13,14,15],[3,5,6,7,8,13,14,15],[],[3,5,6,7,8,13]]
@[go_sem] def hl10:ZW:=hh [[],[],[],[],[],[],[],[],[],[],[],[],[],[],[],[3,5,6,7,8,13,14],[],[],[3,5,6,7,8,13,14,15]]
attribute [go_sem] Go.Proofs.Tryz.results10
theorem ZFi (code:List UInt8) (hl:code.length≤1048576):ZQ Go.Proofs.Tryz.prog 10 [.d (.sl (bys code))] [] [.dead] (.d (.bool true)) []:=by
 refine cof Go.Proofs.Tryz.func10 hr10 hl10 [false] ?_;obtain ⟨s,ps0,pg0,next,view,ps,pg,hi,_,hx⟩:=ZFg (c:=Cur.new code);have hbig:decide ((1048576:Int)<(code.length:Int))=false:=decide_eq_false (by omega);have hD:=hi.disk;have hB:=hD.pages_len;obtain ⟨b1,b3,b4⟩:=ZkQ hD hx;have hsm:=hx.txs.ok.smallW hB;have hdd:Za5 (txnD (Cur.new code)).1.ZK.Zc:=hx.txs.ok.disk;have hPl:(ZE7 code).length=12:=ZFf;obtain ⟨x,hP⟩:=Z3 (l:=ZE7 code) (i:=0) (by omega);have hxr:=ZFe x (List.mem_of_getElem? hP);obtain ⟨n,rfl⟩:∃n:Nat,x=n:=⟨x.toNat,by omega⟩;simp -implicitDefEqProofs only [go_sem]
 refine kl_big code rfl ?_;simp -implicitDefEqProofs only [go_sem,hbig,GTxn.cells];repeat ((first|refine rq ?_|refine wl ?_|refine gl ?_|refine ks_DrawTxn code hl rfl ?_|fail);simp -implicitDefEqProofs only [go_sem,hbig,GTxn.cells])
 generalize (txnD (Cur.new code)).1=t at hx b1 b3 b4 hsm hdd ⊢;have hw:=hsm.1;have hrp:=Zbk hdd;have hp1:=ZgV hx.txs.tree;have hl1:=ZFh hx.txs.tree;simp -implicitDefEqProofs only [go_sem,GTxn.cells];repeat ((first|refine rq ?_|refine wl ?_|refine gl ?_|refine ZFb code hl rfl ?_|refine kl_pairs t.ZK.Zc t.Zy ps hp1 hw.1 hw.2 hrp (by simp -implicitDefEqProofs only [go_sem,ZT.cells_eq];first|done|rfl) ?_|fail);simp -implicitDefEqProofs only [go_sem,GTxn.cells])
 generalize ZE7 code=P at hP hPl hxr ⊢;simp -implicitDefEqProofs only [go_sem,GTxn.cells,ZO hP];repeat ((first|refine rq ?_|refine wl ?_|refine gl ?_|refine kl_key ps n (by omega) (by omega) (by simp -implicitDefEqProofs only [go_sem];first|done|rfl) ?_|fail);simp -implicitDefEqProofs only [go_sem,GTxn.cells,ZO hP])
 generalize ZCr ps n=k;refine ki_PutKey t.ZK t.Zy k [118,97,108] hB hx.txs (by simp -implicitDefEqProofs only [go_sem,ZS.cells_eq];first|done|rfl) ?_;cases hk:putK t.ZK t.Zy k [118,97,108] with
 |none=>
  have hkv:ZyR t.ZK t.Zy k [118,97,108]= .tup [.d (.agg t.ZK.cells),.d (.int .i64 t.Zy),.d (.bool false)]:=by rw [ZyR,hk]
  simp -implicitDefEqProofs only [go_sem,hkv,GTxn.cells,ZS.cells];repeat ((first|refine rq ?_|refine wl ?_|refine gl ?_|refine ZFj t.ZK t.Zy k [118,97,108] hB hx.txs (by simp -implicitDefEqProofs only [go_sem,ZS.cells_eq];first|done|rfl) ?_|refine ZBn t.ZK hsm (by simp -implicitDefEqProofs only [go_sem,ZS.cells_eq];first|done|rfl) ?_|fail);simp -implicitDefEqProofs only [go_sem,hkv,GTxn.cells,ZS.cells])
  done
 |some r=>
  obtain ⟨w,root⟩:=r;have hkv:ZyR t.ZK t.Zy k [118,97,108]= .tup [.d (.agg w.cells),.d (.int .i64 root),.d (.bool true)]:=by rw [ZyR,hk]
  obtain ⟨pg',hx',hfar⟩:=Zug hx.txs hk;have hsm':=hx'.ok.smallW hB;have hd':=hx'.ok.disk;simp -implicitDefEqProofs only [go_sem,hkv,GTxn.cells,ZS.cells,ZT.cells];repeat ((first|refine rq ?_|refine wl ?_|refine gl ?_|refine ZFj t.ZK t.Zy k [118,97,108] hB hx.txs (by simp -implicitDefEqProofs only [go_sem,ZS.cells_eq];first|done|rfl) ?_|refine ZBn w hsm' (by simp -implicitDefEqProofs only [go_sem,ZS.cells_eq];first|done|rfl) ?_|refine Zc4 t.ZK.Zc hw (by simp -implicitDefEqProofs only [go_sem,ZT.cells_eq];first|done|rfl) ?_|fail);simp -implicitDefEqProofs only [go_sem,hkv,GTxn.cells,ZS.cells,ZT.cells])
  have hbt:=ZFl hD hx hfar;have hdd2:=Zg0 hdd;have hsd:=Zb4 hdd2;have hrd:=Zbk hdd2;have hsw':=Zb4 hd';have hrw:=Zbk hd';have hq1:=ZgV hx'.tree;have hq2:=ZgV hbt;have hq3:=ZgV (ZFk hD hx);have hl2:=ZFh hx'.tree;have hl3:=ZFh hbt;have hfl:=b1.1.2.2.2;refine ZY (α:=Nat) (fun i=>⟨[(3,.ref 0 0),(5,.d (.sl (Zaj ps))),(6,.d (.str k)),(7,.ref 1 0),(8,.d (.int .i64 root)),(13,.ref 2 0),(14,.d (.int .i64 i))],[(0,some (.box [.d (.int .i64 t.Za.ZF),.d (.int .i64 t.Za.Zy),.d (.int .i64 t.Za.Zs),.d (.sl (Z9 t.Za.Ze)),.d (.sl (strs t.ZK.Zc.Zv)),.d (.sl (Zae t.ZK.Zc.Zm)),.d (.int .i64 t.ZK.Zs),.d (.sl (ints t.ZK.ZH)),.d (.sl (ints t.ZK.Zg)),.d (.sl (ints t.ZK.Zf)),.d (.int .i64 t.Zy)])),(1,some (.box [.d (.sl (strs w.Zc.Zv)),.d (.sl (Zae w.Zc.Zm)),.d (.int .i64 w.Zs),.d (.sl (ints w.ZH)),.d (.sl (ints w.Zg)),.d (.sl (ints w.Zf))])),(2,some (.box [.d (.sl (strs (Za6 t.ZK.Zc).Zv)),.d (.sl (Zae (Za6 t.ZK.Zc).Zm))]))]⟩)
   (fun i=>i≤t.Za.Ze.length) (fun i=>t.Za.Ze.length - i) 0 rfl (Nat.zero_le _) ?_
  rintro i i1;have hi1:IntKind.i64.wrap ((i:Int)+1)=((i+1:Nat):Int):=ZV (by simp only [LEN];omega);simp -implicitDefEqProofs only [go_sem];refine fork (fun h5=>?_) (fun h5=>?_)
  ·obtain ⟨f,hf⟩:=Z3 h5;have hfp:=(b1.2.1 f (List.mem_of_getElem? hf)).2.1;simp -implicitDefEqProofs only [go_sem,Z4 hf];refine ZY (α:=Nat) (fun j=>⟨[(3,.ref 0 0),(5,.d (.sl (Zaj ps))),(6,.d (.str k)),(7,.ref 1 0),(8,.d (.int .i64 root)),(13,.ref 2 0),(14,.d (.int .i64 i)),(15,.d (.int .i64 j))],[(0,some (.box [.d (.int .i64 t.Za.ZF),.d (.int .i64 t.Za.Zy),.d (.int .i64 t.Za.Zs),.d (.sl (Z9 t.Za.Ze)),.d (.sl (strs t.ZK.Zc.Zv)),.d (.sl (Zae t.ZK.Zc.Zm)),.d (.int .i64 t.ZK.Zs),.d (.sl (ints t.ZK.ZH)),.d (.sl (ints t.ZK.Zg)),.d (.sl (ints t.ZK.Zf)),.d (.int .i64 t.Zy)])),(1,some (.box [.d (.sl (strs w.Zc.Zv)),.d (.sl (Zae w.Zc.Zm)),.d (.int .i64 w.Zs),.d (.sl (ints w.ZH)),.d (.sl (ints w.Zg)),.d (.sl (ints w.Zf))])),(2,some (.box [.d (.sl (strs (Za6 t.ZK.Zc).Zv)),.d (.sl (Zae (Za6 t.ZK.Zc).Zm))]))]⟩)
    (fun j=>j≤f.Zv.length) (fun j=>f.Zv.length - j) 0 rfl (Nat.zero_le _) ?_
   rintro j j1;have hj1:IntKind.i64.wrap ((j:Int)+1)=((j+1:Nat):Int):=ZV (by simp only [LEN];omega);simp -implicitDefEqProofs only [go_sem,Z4 hf];repeat ((first|refine rq ?_|fail);simp -implicitDefEqProofs only [go_sem,Z4 hf])
   refine fork (fun h6=>?_) (fun h6=>?_)
   ·obtain ⟨p,hp⟩:=Z3 h6;have dn:=ZFm b1 hf hp;simp -implicitDefEqProofs only [go_sem,Z4 hf,ZO hp,dn];repeat ((first|refine rq ?_|refine wl ?_|refine gl ?_|fail);simp -implicitDefEqProofs only [go_sem,Z4 hf,ZO hp,dn])
    rw [hj1];exact ZP (j+1) rfl (by omega) (by omega)
   ·simp -implicitDefEqProofs only [go_sem];repeat ((first|refine rq ?_|refine wl ?_|refine gl ?_|fail);simp -implicitDefEqProofs only [go_sem])
    rw [hi1];exact ZP (i+1) rfl (by omega) (by omega)
  ·simp -implicitDefEqProofs only [go_sem];repeat ((first|refine rq ?_|refine wl ?_|refine gl ?_|refine kl_pairs w.Zc root (mput ps k [118,97,108]) hq1 hsw'.1 hsw'.2 hrw (by simp -implicitDefEqProofs only [go_sem,ZT.cells_eq];first|done|rfl) ?_|refine kl_pairs w.Zc t.Za.Zy ps0 hq2 hsw'.1 hsw'.2 hrw (by simp -implicitDefEqProofs only [go_sem,ZT.cells_eq];first|done|rfl) ?_|refine kl_pairs (Za6 t.ZK.Zc) t.Za.Zy ps0 hq3 hsd.1 hsd.2 hrd (by simp -implicitDefEqProofs only [go_sem,ZT.cells_eq];first|done|rfl) ?_|refine ks_TreeOk w.Zc root hx'.tree hsw'.1 hsw'.2 hrw (by simp -implicitDefEqProofs only [go_sem,ZT.cells_eq];first|done|rfl) ?_|refine Zd3 (xs:=[.sl (Zaj ps),.str k,.str [118,97,108]]) (ZiC ps k [118,97,108] (by omega)) (by simp -implicitDefEqProofs only [go_sem];first|done|rfl) rfl ?_|refine ZBz (mput ps k [118,97,108]) (mput ps k [118,97,108]) (by simp only [LEN];omega) (by simp -implicitDefEqProofs only [go_sem];first|done|rfl) ?_|refine ZBz ps0 ps0 (by simp only [LEN];omega) (by simp -implicitDefEqProofs only [go_sem];first|done|rfl) ?_|fail);simp -implicitDefEqProofs only [go_sem,ZT.cells])
   done
def kl_Puts (code:List UInt8) (hl:code.length≤1048576):=kf (ZFi code hl)
theorem ZFn (code:List UInt8) (hl:code.length≤LEN) (hb:¬code.length≤1048576):ZQ Go.Proofs.Tryz.prog 10 [.d (.sl (bys code))] [] [.dead] (.d (.bool true)) []:=by
 refine cof Go.Proofs.Tryz.func10 hr10 hl10 [false] ?_;have hbig:decide ((1048576:Int)<(code.length:Int))=true:=decide_eq_true (by omega);simp -implicitDefEqProofs only [go_sem];refine kl_big code rfl ?_;simp -implicitDefEqProofs only [go_sem,hbig];repeat ((first|refine rq ?_|refine wl ?_|refine gl ?_|fail);simp -implicitDefEqProofs only [go_sem,hbig])
def klb_Puts (code:List UInt8) (hl:code.length≤LEN) (hb:¬code.length≤1048576):=kf (ZFn code hl hb)
theorem cl_PutsA (code:List UInt8) (h:code.length≤LEN∧∀x∈code,True):ZQ Go.Proofs.Tryz.prog 10 [.d (.sl (bys code))] [] [.dead] (.d (.bool true)) []:=
 if hl:code.length≤1048576 then ZFi code hl else ZFn code h.1 hl
end Go.Rx
