/-
  Part V9: lemmas on an evaluator over plain data of the model's code, plain laws on lists and numbers, or contracts of functions of the program; each lemma names its conditions.
-/
import Derived.Test.YtflimjgjgligeaaGreatSA1
import Derived.Test.YtflimjgjgligeaaGreatSA8
import Derived.Test.YtflimjgjgligeaaGreatSB1
import Derived.Test.YtflimjgjgligeaaGreatSB6
import Derived.Test.YtflimjgjgligeaaGreatSD6
import Derived.Test.YtflimjgjgligeaaGreatSE1
import Derived.Test.YtflimjgjgligeaaGreatSE2
import Derived.Test.YtflimjgjgligeaaGreatSE4
import Derived.Test.YtflimjgjgligeaaGreatSE5
import Derived.Test.YtflimjgjgligeaaGreatSE6
import Derived.Test.YtflimjgjgligeaaGreatSG3
import Derived.Test.YtflimjgjgligeaaGreatSNA
import Derived.Test.YtflimjgjgligeaaGreatSNB
import Derived.Test.YtflimjgjgligeaaGreatSP1
import Derived.Test.YtflimjgjgligeaaGreatSP2
import Derived.Test.YtflimjgjgligeaaGreatSP3
import Derived.Test.YtflimjgjgligeaaGreatSP4
import Derived.Test.YtflimjgjgligeaaGreatSP5
import Derived.Test.YtflimjgjgligeaaGreatSQ8
import Derived.Test.YtflimjgjgligeaaGreatSR0

set_option linter.unusedSimpArgs false
set_option linter.unusedVariables false
set_option maxRecDepth 100000
set_option maxHeartbeats 16000000
set_option linter.defProp false
namespace Go.Rx
open Go
def ZE6:Nat→Cur→List Int×Cur
 |0,c=>([],c)
 |k+1,c=>((ZE6 k c).1++[((ZE6 k c).2.below 10000).1],((ZE6 k c).2.below 10000).2)
def ZE7 (code:List UInt8):List Int:=(ZE6 12 (Cur.new code).byte.2).1
theorem ZE8:∀ {k:Nat} {c:Cur},(ZE6 k c).1.length=k
 |0,c=>rfl
 |k+1,c=>by simp [ZE6,ZE8]
theorem ZFa:∀ {k:Nat} {c:Cur},c.ok→(ZE6 k c).2.ok
 |0,c,h=>h
 |k+1,c,h=>Cur.below_ok (ZFa h)
theorem ZE9:∀ {k:Nat} {c:Cur},∀x∈(ZE6 k c).1,0≤x∧x<10000
 |0,c,x,hx=>by cases hx
 |k+1,c,x,hx=>by
  simp only [ZE6,List.mem_append,List.mem_singleton] at hx;rcases hx with hx|rfl
  ·exact ZE9 x hx
  ·exact Cur.below_range (by decide)
theorem ZFf {code:List UInt8}:(ZE7 code).length=12:=ZE8
theorem ZFe {code:List UInt8}:∀x∈ZE7 code,0≤x∧x<10000:=ZE9
end Go.Rx

namespace Go.Rx
open Go
def look (ps:List ZR) (key:Key):Option Key:=(ps.find? fun p=>decide (p.Zi=key)).map (·.ZI)
theorem ZHi {ps:List ZR} {key:Key} (h:∀p∈ps,p.Zi≠key):look ps key=none:=by
 unfold look;rw [List.find?_eq_none.2 fun p hp=>by simpa using h p hp];rfl
theorem ZHq {a b c:List ZR} {key:Key} (ha:∀p∈a,klt p.Zi key) (hc:∀p∈c,klt key p.Zi):look (a++b++c) key=look b key:=by
 have h1:a.find? (fun p=>decide (p.Zi=key))=none:=List.find?_eq_none.2 fun p hp=>by simpa using Zrp (ha p hp)
 have h2:c.find? (fun p=>decide (p.Zi=key))=none:=List.find?_eq_none.2 fun p hp=>by simpa using (Zrp (hc p hp)).symm
 unfold look;rw [List.find?_append,List.find?_append,h1,h2];simp
theorem ZHp {a c:List ZR} {x:ZR} {key:Key} (ha:∀p∈a,klt p.Zi x.Zi) (hx:x.Zi=key):look (a++x::c) key=some x.ZI:=by
 have h1:a.find? (fun p=>decide (p.Zi=key))=none:=List.find?_eq_none.2 fun p hp=>by simpa [←hx] using Zrp (ha p hp)
 unfold look;rw [List.find?_append,h1,List.find?_cons];simp [hx]
theorem ZHl {rd:RD} (ho:rdOk rd) {key:Key}:∀ {f h:Nat} {page:Int} {fk:Key} {ps:List ZR} {pg:List Int},h<f→Tre rd h page fk ps pg→getK f rd page key=look ps key
 |f+1,0,page,fk,ps,pg,hf,⟨n,h1,h2,h3,h4,h5⟩=>by
  have hok:=ho _ _ h1;rw [getK,h1];simp only [h2,if_true];rcases Zlh (key:=key) hok h2 with ⟨g1,g2⟩|⟨a,x,b,g1,g2,g3,g4,g5,g6,g7⟩
  ·rw [g1,if_pos (by omega),h4,ZHi fun p hp e=>Zpa (a:=key) (by have:=g2 p hp;rw [e] at this;exact this)]
  ·rw [g2,if_neg (by omega),Int.toNat_natCast,g6,g7,h4,g1];by_cases hx:x.Zi=key
   ·rw [if_pos hx,ZHp g5 hx]
   ·rw [if_neg hx];refine (ZHi fun p hp e=>?_).symm;rcases List.mem_append.1 hp with hp|hp
    ·have h6:=g5 p hp;rw [e] at h6;exact Zpa (ZbB h6 g3)
    ·rcases List.mem_cons.1 hp with rfl|hp
     ·exact hx e
     ·have:=g4 p hp;rw [e] at this;exact Zpa this
 |f+1,h+1,page,fk,ps,pg,hf,⟨n,ks,h1,h2,h3,h4,h5,h6,h7,h8,h9⟩=>by
  rw [getK,h1];simp only [h2,Bool.false_eq_true,if_false];rcases ZiD (key:=key) h4 h5 with ⟨g1,g2⟩|⟨pre,s,post,g1,g2,g3,g4,g5⟩
  ·rw [g1,if_pos (by omega),h8];refine (ZHi fun p hp e=>?_).symm;obtain ⟨k,hk,hp⟩:=List.mem_flatMap.1 hp;have:=ZbB (g2 k hk) (Zdl (h7.1 k hk) ((h6 k hk).low ho p hp));rw [e] at this;exact Zpa this
  ·rw [g2,if_neg (by omega),Int.toNat_natCast,g5,ZHl ho (by omega) (h6 s (by rw [g1];simp)),h8];rw [g1] at h7 h6 ⊢;obtain ⟨r1,r2⟩:=around ho h7 h6 g3 g4;rw [List.flatMap_append,List.flatMap_cons,←List.append_assoc,ZHq r1 r2]
end Go.Rx

namespace Go.Rx
open Go
theorem ZFd {d0:ZT} {m:ZX} {oldest:Int} {pg0:List Int}:∀ {f i:Nat} {c:Cur} {t:GTxn} {ps:List ZR} {pg:List Int},ZcB d0 m oldest pg0 t ps pg→∃ps pg,ZcB d0 m oldest pg0 (Zky f i c t).1 ps pg
 |0,_,_,_,ps,pg,h=>⟨ps,pg,h⟩
 |f+1,i,c,t,ps,pg,h=>by
  rw [Zky];split
  ·obtain ⟨ps',pg',h2⟩:=ZoH (c:=(c.below 6).2) h;exact ZFd h2
  ·exact ⟨ps,pg,h⟩
theorem ZFg {c:Cur}:∃s ps0 pg0 next view ps pg,Zap s ps0 pg0 next view∧s=(Zbr c).1.ZB∧ZcB s.Zc s.Zp (Zco s) pg0 (txnD c).1 ps pg:=by
 obtain ⟨pg0,view,h⟩:=ZrH (c:=c);obtain ⟨ps,pg,h2⟩:=ZFd (f:=6) (i:=0) (c:=(Zbr c).2) (ZlJ (oldest:=Zco (Zbr c).1.ZB) h.store.disk);exact ⟨_,_,_,_,_,ps,pg,h.store,rfl,h2⟩
end Go.Rx

namespace Go.Rx
open Go
attribute [local irreducible] Req Way WayG Sel Z2 ZQ Zaz cVC Zai ZaO
theorem ZFc (code:List UInt8) (hl:code.length≤1048576):ZQ Go.Proofs.Tryz.prog 17 [.d (.sl (bys code))] [] [.dead] (.d (.sl (ints (ZE7 code)))) []:=by
 refine cofF Go.Proofs.Tryz.func17 hr17 hl17 ?_;have o1:=Cur.new_ok hl;have o2:=Cur.byte_ok o1;simp -implicitDefEqProofs only [go_sem];refine Znr code hl rfl ?_;simp -implicitDefEqProofs only [go_sem,Cur.cells];repeat ((first|refine ZeK (Cur.new code) o1 rfl rfl rfl rfl ?_|refine rq ?_|fail);simp -implicitDefEqProofs only [go_sem,Cur.cells])
 refine ZY (α:=Nat) (fun i=>⟨[(3,.ref 0 0),(4,.own 1 0 i),(5,.d (.int .i64 i))],[(0,some (.box (ZE6 i (Cur.new code).byte.2).2.cells)),(1,some (.arr 1 (ints (ZE6 i (Cur.new code).byte.2).1)))]⟩)
  (fun i=>i≤12) (fun i=>12 - i) 0 rfl (by omega) ?_
 rintro i h1;have o3:=ZFa (k:=i) o2;have hlen:=ZE8 (k:=i) (c:=(Cur.new code).byte.2);simp -implicitDefEqProofs only [go_sem];refine fork (fun h2=>?_) (fun h2=>?_)
 ·simp -implicitDefEqProofs only [go_sem,Cur.cells];repeat ((first|refine Za0 (ZE6 i (Cur.new code).byte.2).2 10000 o3 rfl rfl rfl rfl ?_|refine rq ?_|fail);simp -implicitDefEqProofs only [go_sem,Cur.cells])
  rw [ZV (by simp only [LEN];omega)];refine ZP (i+1) ?_ (by omega) (by omega);simp [ZE6,ints,hlen,Cur.cells];rw [List.take_of_length_le (by simp [hlen])]
 ·obtain rfl:i=12:=by omega
  have ht:(ints (ZE6 12 (Cur.new code).byte.2).1).take 12=ints (ZE7 code):=by rw [List.take_of_length_le (by simp [ints,hlen])];rfl
  simp -implicitDefEqProofs only [go_sem,Cur.cells,ht]
def ZFb (code:List UInt8) (hl:code.length≤1048576):=kf (ZFc code hl)
def ZHj {ours:Int→Prop} {B:List Int} {ps:List ZR} {pg:List Int} (w:ZS) (root:Int) (key:Key) (hB:B.length≤1000) (hx:Txs ours B w root ps pg):=kf (ZsR w root key hB hx)
theorem ZHn {d0:ZT} {m:ZX} {oldest:Int} {pg0 pg:List Int} {ps0 ps:List ZR} {t:GTxn} (hD:ZaX d0 m ps0 pg0) (h:ZcB d0 m oldest pg0 t ps pg):Zdp (rdW (Za6 t.ZK.Zc)) t.Za.Zy ps0 pg0:=by
 rw [Zwy,h.base];exact hD.tree.frame fun q hq=>by unfold rdW;rw [h.text hD.late (ZcG hD (Int.le_refl _) (.inl hq))]
theorem ZHo {d0:ZT} {m:ZX} {oldest:Int} {pg0 pg:List Int} {ps0 ps:List ZR} {t:GTxn} {w:ZS} (hD:ZaX d0 m ps0 pg0) (h:ZcB d0 m oldest pg0 t ps pg) (hf:∀q,¬Zef m oldest q→rdW w.Zc q=rdW t.ZK.Zc q):Zdp (rdW w.Zc) t.Za.Zy ps0 pg0:=by
 rw [h.base];exact hD.tree.frame fun q hq=>by
  by_cases ho:Zef m oldest q
  ·exact absurd ho (ZcG hD (Int.le_refl _) (.inl hq))
  ·rw [hf q ho];unfold rdW;rw [h.text hD.late ho]
theorem ZHh {d:ZT} {root:Int} {ps:List ZR} {pg:List Int} (h:Zdp (rdW d) root ps pg):ps.length≤131072:=by
 obtain ⟨m,c,e⟩:=ZiY h;have:=(@ZuH d root).2.1;rw [e] at this;exact this
@[go_sem] def hr11:ZW:=hh [[0],[0],[],[0],[0,3],[3,4],[3,4,5],[3,5,6],[3,5,6,7,8,9],[3,5,6,7,8,9,10,11,12],[3,5,6,7,8,9,10,11,12,14],[],[3,5,6,7,8,9],[3,7,8],[3,5,6,7,8],[3,5,6,7,8,15]]
@[go_sem] def hl11:ZW:=hh []
attribute [go_sem] Go.Proofs.Tryz.results11
theorem ZHm (code:List UInt8) (hl:code.length≤1048576):ZQ Go.Proofs.Tryz.prog 11 [.d (.sl (bys code))] [] [.dead] (.d (.bool true)) []:=by
 refine cof Go.Proofs.Tryz.func11 hr11 hl11 [false] ?_;obtain ⟨s,ps0,pg0,next,view,ps,pg,hi,_,hx⟩:=ZFg (c:=Cur.new code);have hbig:decide ((1048576:Int)<(code.length:Int))=false:=decide_eq_false (by omega);have hD:=hi.disk;have hB:=hD.pages_len;obtain ⟨b1,b3,b4⟩:=ZkQ hD hx;have hsm:=hx.txs.ok.smallW hB;have hdd:Za5 (txnD (Cur.new code)).1.ZK.Zc:=hx.txs.ok.disk;have hPl:(ZE7 code).length=12:=ZFf;obtain ⟨x,hP⟩:=Z3 (l:=ZE7 code) (i:=0) (by omega);have hxr:=ZFe x (List.mem_of_getElem? hP);obtain ⟨n,rfl⟩:∃n:Nat,x=n:=⟨x.toNat,by omega⟩;simp -implicitDefEqProofs only [go_sem]
 refine kl_big code rfl ?_;simp -implicitDefEqProofs only [go_sem,hbig,GTxn.cells];repeat ((first|refine rq ?_|refine wl ?_|refine gl ?_|refine ks_DrawTxn code hl rfl ?_|fail);simp -implicitDefEqProofs only [go_sem,hbig,GTxn.cells])
 generalize (txnD (Cur.new code)).1=t at hx b1 b3 b4 hsm hdd ⊢;have hw:=hsm.1;have hrp:=Zbk hdd;have hp1:=ZgV hx.txs.tree;have hl1:=ZHh hx.txs.tree;simp -implicitDefEqProofs only [go_sem,GTxn.cells];repeat ((first|refine rq ?_|refine wl ?_|refine gl ?_|refine ZFb code hl rfl ?_|refine kl_pairs t.ZK.Zc t.Zy ps hp1 hw.1 hw.2 hrp (by simp -implicitDefEqProofs only [go_sem,ZT.cells_eq];first|done|rfl) ?_|fail);simp -implicitDefEqProofs only [go_sem,GTxn.cells])
 generalize ZE7 code=P at hP hPl hxr ⊢;simp -implicitDefEqProofs only [go_sem,GTxn.cells,ZO hP];repeat ((first|refine rq ?_|refine wl ?_|refine gl ?_|refine kl_key ps n (by omega) (by omega) (by simp -implicitDefEqProofs only [go_sem];first|done|rfl) ?_|fail);simp -implicitDefEqProofs only [go_sem,GTxn.cells,ZO hP])
 generalize ZCr ps n=k;have hrw0:=hx.txs.ok.disk;refine ki_DropKey t.ZK t.Zy k hB hx.txs (by simp -implicitDefEqProofs only [go_sem,ZS.cells_eq];first|done|rfl) ?_;cases hk:Zn6 t.ZK t.Zy k with
 |none=>
  have hkv:Zvq t.ZK t.Zy k= .tup [.d (.agg t.ZK.cells),.d (.int .i64 t.Zy),.d (.bool false)]:=by rw [Zvq,hk]
  obtain ⟨v1,b1',hgv⟩:∃v1 b1,optV (getW t.ZK.Zc 8 t.Zy k)= .tup [.d (.str v1),.d (.bool b1)]:=by
   cases getW t.ZK.Zc 8 t.Zy k with
   |none=>exact ⟨_,_,rfl⟩
   |some v=>exact ⟨_,_,rfl⟩
  simp -implicitDefEqProofs only [go_sem,hkv,GTxn.cells,ZS.cells,hgv];repeat ((first|refine rq ?_|refine wl ?_|refine gl ?_|refine ZHj t.ZK t.Zy k hB hx.txs (by simp -implicitDefEqProofs only [go_sem,ZS.cells_eq];first|done|rfl) ?_|refine ZfA t.ZK.Zc t.Zy k hw.1 hw.2 hrp (by simp -implicitDefEqProofs only [go_sem,ZT.cells_eq];first|done|rfl) ?_|refine ZBn t.ZK hsm (by simp -implicitDefEqProofs only [go_sem,ZS.cells_eq];first|done|rfl) ?_|fail);simp -implicitDefEqProofs only [go_sem,hkv,GTxn.cells,ZS.cells,hgv])
  done
 |some r=>
  obtain ⟨w,root⟩:=r;have hkv:Zvq t.ZK t.Zy k= .tup [.d (.agg w.cells),.d (.int .i64 root),.d (.bool true)]:=by rw [Zvq,hk]
  obtain ⟨⟨q,hq1,hq2⟩,pg',hx',hfar⟩:=Zsv hx.txs hk;obtain ⟨v1,hgv⟩:∃v1,optV (getW t.ZK.Zc 8 t.Zy k)= .tup [.d (.str v1),.d (.bool true)]:=by
   have hr0:t.Zy≠0:=fun e=>by rw [Zn6,if_pos e] at hk;cases hk
   rcases hx.txs.tree with ⟨h0,_⟩|⟨_,_,h,f,h8,ht⟩
   ·exact absurd h0 hr0
   ·rw [getW,if_neg hr0,ZHl Zcx h8 ht,look];cases hf:ps.find? (fun p=>decide (p.Zi=k)) with
    |none=>exact absurd (List.find?_eq_none.1 hf q hq1) (by simp [hq2])
    |some p=>exact ⟨p.ZI,rfl⟩
  have hsm':=hx'.ok.smallW hB;have hd':=hx'.ok.disk;have hbt:=ZHo hD hx hfar;have hdd2:=Zg0 hdd;have hsd:=Zb4 hdd2;have hrd:=Zbk hdd2;have hsw':=Zb4 hd';have hrw:=Zbk hd';have hq1':=ZgV hx'.tree;have hq2':=ZgV hbt;have hq3':=ZgV (ZHn hD hx);have hl2:=ZHh hx'.tree;have hl3:=ZHh hbt;simp -implicitDefEqProofs only [go_sem,hkv,GTxn.cells,ZS.cells,ZT.cells,hgv];repeat ((first|refine rq ?_|refine wl ?_|refine gl ?_|refine ZHj t.ZK t.Zy k hB hx.txs (by simp -implicitDefEqProofs only [go_sem,ZS.cells_eq];first|done|rfl) ?_|refine ZfA t.ZK.Zc t.Zy k hw.1 hw.2 hrp (by simp -implicitDefEqProofs only [go_sem,ZT.cells_eq];first|done|rfl) ?_|refine ZBn w hsm' (by simp -implicitDefEqProofs only [go_sem,ZS.cells_eq];first|done|rfl) ?_|refine Zc4 t.ZK.Zc hw (by simp -implicitDefEqProofs only [go_sem,ZT.cells_eq];first|done|rfl) ?_|refine kl_pairs w.Zc root (ZeI ps k) hq1' hsw'.1 hsw'.2 hrw (by simp -implicitDefEqProofs only [go_sem,ZT.cells_eq];first|done|rfl) ?_|refine kl_pairs w.Zc t.Za.Zy ps0 hq2' hsw'.1 hsw'.2 hrw (by simp -implicitDefEqProofs only [go_sem,ZT.cells_eq];first|done|rfl) ?_|refine kl_pairs (Za6 t.ZK.Zc) t.Za.Zy ps0 hq3' hsd.1 hsd.2 hrd (by simp -implicitDefEqProofs only [go_sem,ZT.cells_eq];first|done|rfl) ?_|refine ks_TreeOk w.Zc root hx'.tree hsw'.1 hsw'.2 hrw (by simp -implicitDefEqProofs only [go_sem,ZT.cells_eq];first|done|rfl) ?_|refine Zir ps k (by omega) (by simp -implicitDefEqProofs only [go_sem];first|done|rfl) ?_|refine ZBz (ZeI ps k) (ZeI ps k) (by simp only [LEN];omega) (by simp -implicitDefEqProofs only [go_sem];first|done|rfl) ?_|refine ZBz ps0 ps0 (by simp only [LEN];omega) (by simp -implicitDefEqProofs only [go_sem];first|done|rfl) ?_|fail);simp -implicitDefEqProofs only [go_sem,hkv,GTxn.cells,ZS.cells,ZT.cells,hgv])
  done
def kl_Drops (code:List UInt8) (hl:code.length≤1048576):=kf (ZHm code hl)
theorem ZHk (code:List UInt8) (hl:code.length≤LEN) (hb:¬code.length≤1048576):ZQ Go.Proofs.Tryz.prog 11 [.d (.sl (bys code))] [] [.dead] (.d (.bool true)) []:=by
 refine cof Go.Proofs.Tryz.func11 hr11 hl11 [false] ?_;have hbig:decide ((1048576:Int)<(code.length:Int))=true:=decide_eq_true (by omega);simp -implicitDefEqProofs only [go_sem];refine kl_big code rfl ?_;simp -implicitDefEqProofs only [go_sem,hbig];repeat ((first|refine rq ?_|refine wl ?_|refine gl ?_|fail);simp -implicitDefEqProofs only [go_sem,hbig])
def klb_Drops (code:List UInt8) (hl:code.length≤LEN) (hb:¬code.length≤1048576):=kf (ZHk code hl hb)
theorem cl_DropsA (code:List UInt8) (h:code.length≤LEN∧∀x∈code,True):ZQ Go.Proofs.Tryz.prog 11 [.d (.sl (bys code))] [] [.dead] (.d (.bool true)) []:=
 if hl:code.length≤1048576 then ZHm code hl else ZHk code h.1 hl
end Go.Rx
