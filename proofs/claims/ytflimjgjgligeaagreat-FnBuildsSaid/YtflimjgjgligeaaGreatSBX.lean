/-
  Part BX: lemmas on an evaluator over plain data of the model's code, plain laws on lists and numbers, or contracts of functions of the program; each lemma names its conditions.
-/
import Derived.Test.YtflimjgjgligeaaGreatSA1
import Derived.Test.YtflimjgjgligeaaGreatSA5
import Derived.Test.YtflimjgjgligeaaGreatSE1
import Derived.Test.YtflimjgjgligeaaGreatSE2
import Derived.Test.YtflimjgjgligeaaGreatSE3
import Derived.Test.YtflimjgjgligeaaGreatSE4
import Derived.Test.YtflimjgjgligeaaGreatSE6
import Derived.Test.YtflimjgjgligeaaGreatSKJ
import Derived.Test.YtflimjgjgligeaaGreatSP1
import Derived.Test.YtflimjgjgligeaaGreatSP2
import Derived.Test.YtflimjgjgligeaaGreatSR0

set_option linter.unusedSimpArgs false
set_option linter.unusedVariables false
set_option maxRecDepth 100000
set_option maxHeartbeats 16000000
set_option linter.defProp false
namespace Go.Rx
open Go
def ZEy (l:List ZhI):List (List D):=l.map ZhI.cells
theorem ZEB {l:List ZhI}:(ZEy l).length=l.length:=by simp [ZEy]
theorem ZFY {l:List ZhI} {i:Nat} {p:ZhI} (h:l[i]? =some p):lget (ZEy l) i=[.str p.Zr,.int .i64 p.Zl]:=by simp [lget,ZEy,List.getD,h,ZhI.cells]
theorem ZEA {m:List ZhI} {n:Nat}:(ZEy m).take n=ZEy (m.take n):=by simp [ZEy]
theorem ZFZ {m:List ZhI} {n:Nat}:(ZEy m).drop n=ZEy (m.drop n):=by simp [ZEy]
theorem ZEJ {m:List ZhI}:∀c∈ZEy m,c.length=2:=fun c hc=>by simp only [ZEy,List.mem_map] at hc;obtain ⟨p,_,rfl⟩:=hc;rfl
theorem ZEK {m:List ZhI}:∀c∈ZEy m,∀d∈c,d.one=true:=fun c hc d hd=>by
 simp only [ZEy,List.mem_map] at hc;obtain ⟨p,_,rfl⟩:=hc;simp only [ZhI.cells,List.mem_cons,List.not_mem_nil,or_false] at hd;rcases hd with rfl|rfl<;>rfl
theorem ZEC {m:List ZhI} {aName:List UInt8} {aKind:Int}:ZEy m++[[.str aName,.int .i64 aKind]]=ZEy (m++[⟨aName,aKind⟩]):=by simp [ZEy,ZhI.cells]
theorem ZEE {m:List ZhI} {i:Nat} {aName:List UInt8} {aKind:Int}:(ZEy m).set i [.str aName,.int .i64 aKind]=ZEy (m.set i ⟨aName,aKind⟩):=by simp [ZEy,List.map_set,ZhI.cells]
theorem ZEL {m:List ZhI}:(ZEy m).take m.length=ZEy m:=by rw [ZEA,List.take_length]
theorem ZEH {m:List ZhI} {p:ZhI}:(ZEy (m++[p])).take (m.length+1)=ZEy (m++[p]):=by rw [ZEA,List.take_of_length_le (by simp)]
theorem ZEF {m:List ZhI}:(∀c∈ZEy m,c.length=2)=True:=eq_true ZEJ
theorem ZEG {m:List ZhI}:(∀c∈ZEy m,∀d∈c,d.one=true)=True:=eq_true ZEK
attribute [go_sem] ZEB ZEC ZEE ZEL ZEH ZEF ZEG
theorem Zz2 {m:List ZR} {n:Nat}:(Zaj m).drop n=Zaj (m.drop n):=by simp [Zaj]
end Go.Rx

namespace Go.Rx
open Go
theorem ZEg {w w':ZS} {n:Z1} {p:Int} (h:putN w n=some (w',p)):(putO w n).1.work=w'∧(putO w n).2=p:=by
 have hg:=ZDW (w:=w);rw [putO,h];simp only [and_true];unfold putN at h;split at h
 ·split at h
  ·cases h
  ·split at h
   ·cases h
   ·rename_i d hd;simp only [Option.some.injEq,Prod.mk.injEq] at h;obtain ⟨rfl,rfl⟩:=h;unfold Zak at hd;split at hd
    ·obtain rfl:=Option.some.inj hd;rw [←hg];rfl
    ·cases hd
 ·cases h
end Go.Rx

namespace Go.Rx
open Go
def ZFC (c:Ch) (n:Z1):Ch×Int:=bif c.bad then (c,0) else bif decide ((putO c.w.work n).2=0) then (⟨c.w,true⟩,0) else (⟨(putO c.w.work n).1,false⟩,(putO c.w.work n).2)
theorem ZFW {c:Ch} {n:Z1} (hb:c.bad=false):(match putN c.w.work n with
  |none=>(ZFC c n).1=⟨c.w,true⟩∧(ZFC c n).2=0
  |some (w',p)=>(ZFC c n).1.bad=false∧(ZFC c n).1.w.work=w'∧(ZFC c n).2=p):=by
 unfold ZFC;rw [hb];cases h:putN c.w.work n with
 |none=>
  have:(putO c.w.work n).2=0:=by rw [putO,h]
  simp [this]
 |some q=>
  obtain ⟨w',p⟩:=q;obtain ⟨e1,e2⟩:=ZEg h;have:=Zcl h;have d0:decide ((putO c.w.work n).2=0)=false:=decide_eq_false (by rw [e2];exact this);simp only [d0,cond_false];exact ⟨trivial,e1,e2⟩
theorem ZFU {c:Ch} {n:Z1} (hb:c.bad=true):ZFC c n=(c,0):=by rw [ZFC,hb];rfl
theorem ZFS {c:Ch} {n:Z1} (h:smallW c.w.work):smallW (ZFC c n).1.w.work:=by
 cases hb:c.bad with
 |true=>rw [ZFU hb];exact h
 |false=>
  have:=ZFW (n:=n) hb;cases hp:putN c.w.work n with
  |none=>rw [hp] at this;rw [this.1];exact h
  |some q=>
   obtain ⟨w',p⟩:=q;rw [hp] at this;obtain ⟨_,e,_⟩:=this;rw [e];exact ZeE h hp
theorem OW.work_cells {w:OW}:w.work.cells=[.sl (strs w.pages),.sl (Zae w.late),.int .i64 w.next,.sl (ints (w.ua.drop w.uo)),.sl (ints w.gone),.sl (ints w.fresh)]:=rfl
end Go.Rx

namespace Go.Rx
open Go
def ZFR:Ch→List GKid→List (List ZR)→Ch×List GKid
 |c,out,[]=>(c,out)
 |c,out,b::bs=>bif (ZFC c (Za2 b)).1.bad then ((ZFC c (Za2 b)).1,out++[⟨key1 b,(ZFC c (Za2 b)).2⟩]) else ZFR (ZFC c (Za2 b)).1 (out++[⟨key1 b,(ZFC c (Za2 b)).2⟩]) bs
def ZFX:Ch→List GKid→List (List GKid)→Ch×List GKid
 |c,out,[]=>(c,out)
 |c,out,b::bs=>ZFX (ZFC c (kidB b)).1 (out++[⟨Zy2 b,(ZFC c (kidB b)).2⟩]) bs
theorem ZFT {c:Ch}:c.h=[(0,.box [.own 1 0 c.w.pages.length,.own 2 0 c.w.late.length,.d (.int .i64 c.w.next),.own 3 c.w.uo (c.w.ua.length - c.w.uo),.own 4 0 c.w.gone.length,.own 5 0 c.w.fresh.length,.d (.bool c.bad)]),
 (1,.arr 1 (strs c.w.pages)),(2,.arr 2 (Zae c.w.late)),(3,.arr 1 (ints c.w.ua)),(4,.arr 1 (ints c.w.gone)),(5,.arr 1 (ints c.w.fresh))]:=rfl
theorem ZFV {c:Ch}:ZhJ c.h:=by
 refine ZdO ?_ (ZdO ZnS (ZdO Zlu (ZdO Zhu (ZdO Zhu (ZdO Zhu Zd6)))));intro v hv;simp only [List.mem_cons,List.not_mem_nil,or_false] at hv;rcases hv with rfl|rfl|rfl|rfl|rfl|rfl|rfl<;>first|exact .own _ _ _|exact .d (.int _ _)|exact .d (.bool _)
end Go.Rx

namespace Go.Rx
open Go
theorem ZF4:∀ {bs:List (List ZR)} {c:Ch} {out:List GKid},smallW c.w.work→smallW (ZFR c out bs).1.w.work
 |[],c,out,h=>h
 |b::bs,c,out,h=>by
  rw [ZFR];have h2:=ZFS (n:=Za2 b) h;cases (ZFC c (Za2 b)).1.bad with
  |true=>exact h2
  |false=>exact ZF4 h2
theorem ZF6:∀ {bs:List (List GKid)} {c:Ch} {out:List GKid},smallW c.w.work→smallW (ZFX c out bs).1.w.work
 |[],c,out,h=>h
 |b::bs,c,out,h=>by
  rw [ZFX];exact ZF6 (ZFS (n:=kidB b) h)
theorem ZF8:∀ {bs:List (List GKid)} {c:Ch} {out:List GKid},(ZFX c out bs).2.length=out.length+bs.length
 |[],c,out=>rfl
 |b::bs,c,out=>by
  rw [ZFX,ZF8];simp;omega
theorem ZF7:∀ {bs:List (List ZR)} {c:Ch} {out:List GKid},(ZFR c out bs).2.length≤out.length+bs.length
 |[],c,out=>Nat.le_refl _
 |b::bs,c,out=>by
  rw [ZFR];cases (ZFC c (Za2 b)).1.bad with
  |true=>simp
  |false=>
   have:=ZF7 (bs:=bs) (c:=(ZFC c (Za2 b)).1) (out:=out++[⟨key1 b,(ZFC c (Za2 b)).2⟩]);simp at this ⊢;omega
def ZF2:Nat→Ch→List GKid→Ch×List GKid
 |0,c,k=>(c,k)
 |f+1,c,k=>if c.bad=false∧1<k.length then ZF2 f (ZFX c [] (ZaR k)).1 (ZFX c [] (ZaR k)).2 else (c,k)
theorem ZF5 {f:Nat} {c:Ch} {k:List GKid} (h:¬(c.bad=false∧1<k.length)):ZF2 f c k=(c,k):=by
 cases f with
 |zero=>rfl
 |succ f=>rw [ZF2,if_neg h]
theorem ZF9 {f:Nat} {c:Ch} {k:List GKid} (h1:c.bad=false) (h2:1<k.length):ZF2 (f+1) c k=ZF2 f (ZFX c [] (ZaR k)).1 (ZFX c [] (ZaR k)).2:=by
 rw [ZF2,if_pos ⟨h1,h2⟩]
def ZGb (w:ZS) (l:List ZR):Ch×List GKid:=
 ZF2 l.length (ZFR ⟨ofW w,false⟩ [] (ZaR l)).1 (ZFR ⟨ofW w,false⟩ [] (ZaR l)).2
def ZF3 (w:ZS) (l:List ZR):OW×Int×Bool:=
 bif decide (ascK (l.map (·.Zi))) then
  bif (ZGb w l).1.bad then (ofW w,0,false) else ((ZGb w l).1.w,page1 (ZGb w l).2,true)
 else (ofW w,0,false)
theorem ZGc {c:Ch} {k:List GKid} (h:1<k.length):(ZFX c [] (ZaR k)).2.length<k.length:=by
 have:=ZeQ _ k (Nat.le_refl _);rw [ZF8];simp;omega
theorem ZGd {c:Ch} {l:List ZR}:(ZFR c [] (ZaR l)).2.length≤l.length:=by
 have:=ZeQ _ l (Nat.le_refl _);have h2:=ZF7 (bs:=ZaR l) (c:=c) (out:=[]);simp at h2;omega
end Go.Rx

namespace Go.Rx
open Go
attribute [local irreducible] Req Way WayG Sel Z2 ZQ Zaz cVC Zai ZaO
theorem ZFB {h:Heap} {tb:Nat} {K:OK} {args:List V} {ls:List Nat} (w:ZS) (n:Z1) (hw:smallW w) (h1:n.Zj.length≤LEN) (h2:n.ZJ.length≤LEN) (h3:n.Zk.length≤LEN) (hg:toDs h args=some ([.agg w.cells,.agg n.cells],ls))
  (hk:K (renV (bk tb ((putO w n).1.h)) (.tup [(putO w n).1.v,.d (.int .i64 (putO w n).2)])) (updN tb ((putO w n).1.h) ((putO w n).1.h))):Z2 Go.Proofs.Tryz.prog h tb 40 args K:=
 ZcM hg (ci_PutNode w n hw h1 h2 h3) rfl (.inr ⟨Ze9 rfl,Zre⟩) hk
@[go_sem] def hr123:ZW:=hh [[0,1],[0,3],[0],[0,3],[0,5,6],[0],[0],[0,5,6],[0,6]]
@[go_sem] def hl123:ZW:=hh []
attribute [go_sem] Go.Proofs.Tryz.results123
theorem ZGA (c:Ch) (n:Z1) (hw:smallW c.w.work) (h1:n.Zj.length≤LEN) (h2:n.ZJ.length≤LEN) (h3:n.Zk.length≤LEN):ZQ Go.Proofs.Tryz.prog 123 [.ref 0 0,.d (.agg n.cells)] c.h [.ref 0 0,.dead] (.d (.int .i64 (ZFC c n).2)) (ZFC c n).1.h:=by
 obtain ⟨w,bad⟩:=c;refine cof Go.Proofs.Tryz.func123 hr123 hl123 [true,false] ?_;simp -implicitDefEqProofs only [go_sem,Ch.h,Z1.cells];cases bad
 ·simp -implicitDefEqProofs only [go_sem];refine ZFB w.work n hw h1 h2 h3 (by simp -implicitDefEqProofs only [go_sem,OW.work_cells,Z1.cells];first|done|rfl) ?_;have hc:ZFC ⟨w,false⟩ n=bif decide ((putO w.work n).2=0) then (⟨w,true⟩,0) else (⟨(putO w.work n).1,false⟩,(putO w.work n).2):=rfl
  rw [hc];cases hp:decide ((putO w.work n).2=0)
  ·simp -implicitDefEqProofs only [go_sem,OW.v_eq,OW.h_eq,hp];repeat ((first|refine rq ?_|fail);simp -implicitDefEqProofs only [go_sem,OW.v_eq,OW.h_eq,hp])
   rfl
  ·simp -implicitDefEqProofs only [go_sem,OW.v_eq,OW.h_eq,hp];repeat ((first|refine rq ?_|fail);simp -implicitDefEqProofs only [go_sem,OW.v_eq,OW.h_eq,hp])
   rfl
 ·simp -implicitDefEqProofs only [go_sem,ZFC];rfl
@[go_sem] def hr99:ZW:=hh [[0,1],[0,1],[0,1,5],[0,1,5,6],[0,1,5,6],[0,1,5,6],[0,1,5,6,7],[0,1,5,6,7,25,26,27],[0,1,5,6,7,25,26,27],[0,1,5,6,7,9,25,26,27],[0,1,5,6,7,9,25,26,27],[0,1,5,6,7,25,26,27],[0,1,5,6,7],[0,1,5,6],[0,5]]
@[go_sem] def hl99:ZW:=hh [[],[],[],[0,1,5,6],[],[],[],[0,1,5,6,7,25,26,27]]
attribute [go_sem] Go.Proofs.Tryz.results99
theorem ZGB (c : Ch) (l : List ZR) (hw : smallW c.w.work) (hb : c.bad = false) (hl : l.length ≤ 1048576) : ZQ Go.Proofs.Tryz.prog 99 [.ref 0 0, .d (.sl (Zaj l))] c.h [.ref 0 0, .dead] (.own 6 0 (ZFR c [] (ZaR l)).2.length) ((ZFR c [] (ZaR l)).1.h ++ [(6, .arr 2 (ZEy (ZFR c [] (ZaR l)).2))]) := by
  refine cof Go.Proofs.Tryz.func99 hr99 hl99 [true, false] ?_;simp -implicitDefEqProofs only [go_sem, ZFT];refine ZY (α := Nat × Ch × List GKid) (fun x => ⟨[(0, .ref 0 0), (1, .d (.sl (Zaj l))), (5, .own 6 0 x.2.2.length), (6, .d (.int .i64 ((4 * x.1 : Nat) : Int)))],
      [(0, some (.box [.own 1 0 x.2.1.w.pages.length, .own 2 0 x.2.1.w.late.length, .d (.int .i64 x.2.1.w.next), .own 3 x.2.1.w.uo (x.2.1.w.ua.length - x.2.1.w.uo), .own 4 0 x.2.1.w.gone.length, .own 5 0 x.2.1.w.fresh.length, .d (.bool x.2.1.bad)])),
       (1, some (.arr 1 (strs x.2.1.w.pages))), (2, some (.arr 2 (Zae x.2.1.w.late))), (3, some (.arr 1 (ints x.2.1.w.ua))), (4, some (.arr 1 (ints x.2.1.w.gone))), (5, some (.arr 1 (ints x.2.1.w.fresh))), (6, some (.arr 2 (ZEy x.2.2)))]⟩)
    (fun x => 4 * x.1 ≤ l.length + 3 ∧ x.2.1.bad = false ∧ smallW x.2.1.w.work ∧ x.2.2.length = x.1 ∧ ZFR x.2.1 x.2.2 (ZaR (l.drop (4 * x.1))) = ZFR c [] (ZaR l)) (fun x => l.length + 4 - 4 * x.1) (0, c, []) rfl ⟨by omega, hb, hw, rfl, by rw [Nat.mul_zero, List.drop_zero]⟩ ?_
  rintro ⟨j, c, out⟩ ⟨i1, i2, i3, i4, i5⟩;simp only at i1 i2 i3 i4 i5;simp -implicitDefEqProofs only [go_sem];refine fork (fun h5 => ?_) (fun h5 => ?_)
  · have w4 : IntKind.i64.wrap (((4 * j : Nat) : Int) + 4) = ((4 * (j + 1) : Nat) : Int) := by rw [Zad (by omega) (by omega)]; omega
    obtain ⟨e, hee⟩ : ∃ e : Nat, e = min (4 * (j + 1)) l.length := ⟨_, rfl⟩;have hmin : (if ((4 * (j + 1) : Nat) : Int) < (l.length : Int) then ((4 * (j + 1) : Nat) : Int) else (l.length : Int)) = (e : Int) := by split <;> omega
    have hbd : ((Zaj l).take e).drop (4 * j) = Zaj ((l.drop (4 * j)).take 4) := by
      rw [List.drop_take, Zz2, Zku];congr 1;by_cases h : 4 * (j + 1) ≤ l.length
      · rw [show e - 4 * j = 4 by omega]
      · rw [List.take_of_length_le (by simp; omega), List.take_of_length_le (by simp; omega)]
    simp -implicitDefEqProofs only [go_sem, w4, hmin, if_true];repeat ((first | refine rq ?_ | fail); simp -implicitDefEqProofs only [go_sem, w4, hmin, hbd, if_true])
    obtain ⟨b, hb2⟩ : ∃ b, b = (l.drop (4 * j)).take 4 := ⟨_, rfl⟩;have hbl : b.length = e - 4 * j := by rw [hb2]; simp; omega
    rw [← hb2] at hbd;refine ZY (α := Nat) (fun i => ⟨[(0, .ref 0 0), (1, .d (.sl (Zaj l))), (5, .own 6 0 out.length), (6, .d (.int .i64 ((4 * j : Nat) : Int))), (7, .ref 7 0), (25, .d (.sl (Zaj b))), (26, .d (.int .i64 b.length)), (27, .d (.int .i64 i))],
        [(0, some (.box [.own 1 0 c.w.pages.length, .own 2 0 c.w.late.length, .d (.int .i64 c.w.next), .own 3 c.w.uo (c.w.ua.length - c.w.uo), .own 4 0 c.w.gone.length, .own 5 0 c.w.fresh.length, .d (.bool c.bad)])),
         (1, some (.arr 1 (strs c.w.pages))), (2, some (.arr 2 (Zae c.w.late))), (3, some (.arr 1 (ints c.w.ua))), (4, some (.arr 1 (ints c.w.gone))), (5, some (.arr 1 (ints c.w.fresh))), (6, some (.arr 2 (ZEy out))),
         (7, some (.box [.d (.bool true), .own 8 0 ((b.take i).map (·.Zi)).length, .own 9 0 ((b.take i).map (·.ZI)).length, .own 10 0 0])), (8, some (.arr 1 (strs ((b.take i).map (·.Zi))))), (9, some (.arr 1 (strs ((b.take i).map (·.ZI))))), (10, some (.arr 1 []))]⟩)
      (fun i => i ≤ b.length) (fun i => b.length - i) 0 ?_ (Nat.zero_le _) ?_
    · rw [← hb2]; rfl
    rintro i k1;simp -implicitDefEqProofs only [go_sem];refine fork (fun h6 => ?_) (fun h6 => ?_)
    · obtain ⟨p, hp⟩ := Z3 h6
      simp -implicitDefEqProofs only [go_sem, Zar hp];repeat ((first | refine rq ?_ | fail); simp -implicitDefEqProofs only [go_sem, Zar hp])
      refine ZP (i + 1) ?_ (by omega) (by omega);rw [Z7 hp, ZV (by simp only [LEN]; omega)];simp
    · have hb0 : 0 < b.length := by omega
      obtain ⟨q, hq⟩ := Z3 (l := b) (i := 0) (by omega);have hk0 : lget (strs (b.map (·.Zi))) 0 = [.str (key1 b)] := by
        cases b with
        | nil => simp at hb0
        | cons x xs => rfl
      rw [List.take_of_length_le (show b.length ≤ i by omega)];simp -implicitDefEqProofs only [go_sem];repeat ((first | refine req (by simp only [List.length_map]; omega) ?_ | refine rq ?_ | fail); simp -implicitDefEqProofs only [go_sem, hk0])
      have hm : b.length ≤ 4 := by omega
      refine Za3 false (n := 0) (xs := [.agg (Za2 b).cells]) (ZGA c (Za2 b) i3 (by simp only [Za2, List.length_map, LEN]; omega) (by simp only [Za2, List.length_map, LEN]; omega) (by simp [Za2])) rfl rfl rfl (by simp -implicitDefEqProofs only [go_sem, Z1.cells, Za2]; first | done | rfl) rfl rfl rfl rfl (.inr (.inr ⟨Ze9 rfl, ZFV⟩)) ?_;have hs2 := ZFS (n := Za2 b) i3;have hstep : ZFR c out (ZaR (l.drop (4 * j))) = bif (ZFC c (Za2 b)).1.bad then ((ZFC c (Za2 b)).1, out ++ [⟨key1 b, (ZFC c (Za2 b)).2⟩]) else ZFR (ZFC c (Za2 b)).1 (out ++ [⟨key1 b, (ZFC c (Za2 b)).2⟩]) (ZaR (l.drop (4 * (j + 1)))) := by
        rw [Zhz (by omega), ZFR, ← hb2]; rfl
      rw [hstep] at i5;generalize hv : ZFC c (Za2 b) = v at i5 hs2 ⊢;obtain ⟨c2, pg⟩ := v;simp only at i5 hs2;simp -implicitDefEqProofs only [go_sem, ZFT];repeat ((first | refine rq ?_ | fail); simp -implicitDefEqProofs only [go_sem, ZFT])
      refine fork (fun h7 => ?_) (fun h7 => ?_)
      · rw [h7, cond_true] at i5
        rw [← i5];simp -implicitDefEqProofs only [go_sem];simp;rfl
      · rw [h7, cond_false] at i5
        simp -implicitDefEqProofs only [go_sem, w4];repeat ((first | refine rq ?_ | fail); simp -implicitDefEqProofs only [go_sem, w4])
        refine ZP (j + 1, c2, out ++ [⟨key1 b, pg⟩]) ?_ ⟨by simp only; omega, h7, hs2, by simp; omega, i5⟩ (by simp only; omega);simp
  · have he : ZaR (l.drop (4 * j)) = [] := ZlD (by omega)
    rw [he, ZFR] at i5;rw [← i5];simp -implicitDefEqProofs only [go_sem];rfl
@[go_sem] def hr100:ZW:=hh [[0,1],[0,1],[0,1,5],[0,1,5,6],[0,1,5,6],[0,1,5,6],[0,1,5,6,7],[0,1,5,6,7,25,26,27],[0,1,5,6,7,25,26,27],[0,1,5,6,7,9,25,26,27],[0,1,5,6,7,9,25,26,27],[0,1,5,6,7,25,26,27],[0,1,5,6,7],[0,5]]
@[go_sem] def hl100:ZW:=hh [[],[],[],[0,1,5,6],[],[],[],[0,1,5,6,7,25,26,27]]
attribute [go_sem] Go.Proofs.Tryz.results100
theorem ZGC (c : Ch) (l : List GKid) (hw : smallW c.w.work) (hl : l.length ≤ 1048576) : ZQ Go.Proofs.Tryz.prog 100 [.ref 0 0, .d (.sl (ZEy l))] c.h [.ref 0 0, .dead] (.own 6 0 (ZFX c [] (ZaR l)).2.length) ((ZFX c [] (ZaR l)).1.h ++ [(6, .arr 2 (ZEy (ZFX c [] (ZaR l)).2))]) := by
  refine cof Go.Proofs.Tryz.func100 hr100 hl100 [true, false] ?_;simp -implicitDefEqProofs only [go_sem, ZFT];refine ZY (α := Nat × Ch × List GKid) (fun x => ⟨[(0, .ref 0 0), (1, .d (.sl (ZEy l))), (5, .own 6 0 x.2.2.length), (6, .d (.int .i64 ((4 * x.1 : Nat) : Int)))],
      [(0, some (.box [.own 1 0 x.2.1.w.pages.length, .own 2 0 x.2.1.w.late.length, .d (.int .i64 x.2.1.w.next), .own 3 x.2.1.w.uo (x.2.1.w.ua.length - x.2.1.w.uo), .own 4 0 x.2.1.w.gone.length, .own 5 0 x.2.1.w.fresh.length, .d (.bool x.2.1.bad)])),
       (1, some (.arr 1 (strs x.2.1.w.pages))), (2, some (.arr 2 (Zae x.2.1.w.late))), (3, some (.arr 1 (ints x.2.1.w.ua))), (4, some (.arr 1 (ints x.2.1.w.gone))), (5, some (.arr 1 (ints x.2.1.w.fresh))), (6, some (.arr 2 (ZEy x.2.2)))]⟩)
    (fun x => 4 * x.1 ≤ l.length + 3 ∧ smallW x.2.1.w.work ∧ x.2.2.length = x.1 ∧ ZFX x.2.1 x.2.2 (ZaR (l.drop (4 * x.1))) = ZFX c [] (ZaR l)) (fun x => l.length + 4 - 4 * x.1) (0, c, []) rfl ⟨by omega, hw, rfl, by rw [Nat.mul_zero, List.drop_zero]⟩ ?_
  rintro ⟨j, c, out⟩ ⟨i1, i3, i4, i5⟩;simp only at i1 i3 i4 i5;simp -implicitDefEqProofs only [go_sem];refine fork (fun h5 => ?_) (fun h5 => ?_)
  · have w4 : IntKind.i64.wrap (((4 * j : Nat) : Int) + 4) = ((4 * (j + 1) : Nat) : Int) := by rw [Zad (by omega) (by omega)]; omega
    obtain ⟨e, hee⟩ : ∃ e : Nat, e = min (4 * (j + 1)) l.length := ⟨_, rfl⟩;have hmin : (if ((4 * (j + 1) : Nat) : Int) < (l.length : Int) then ((4 * (j + 1) : Nat) : Int) else (l.length : Int)) = (e : Int) := by split <;> omega
    have hbd : ((ZEy l).take e).drop (4 * j) = ZEy ((l.drop (4 * j)).take 4) := by
      rw [List.drop_take, ZFZ, ZEA];congr 1;by_cases h : 4 * (j + 1) ≤ l.length
      · rw [show e - 4 * j = 4 by omega]
      · rw [List.take_of_length_le (by simp; omega), List.take_of_length_le (by simp; omega)]
    simp -implicitDefEqProofs only [go_sem, w4, hmin, if_true];repeat ((first | refine rq ?_ | fail); simp -implicitDefEqProofs only [go_sem, w4, hmin, hbd, if_true])
    obtain ⟨b, hb2⟩ : ∃ b, b = (l.drop (4 * j)).take 4 := ⟨_, rfl⟩;have hbl : b.length = e - 4 * j := by rw [hb2]; simp; omega
    rw [← hb2] at hbd;refine ZY (α := Nat) (fun i => ⟨[(0, .ref 0 0), (1, .d (.sl (ZEy l))), (5, .own 6 0 out.length), (6, .d (.int .i64 ((4 * j : Nat) : Int))), (7, .ref 7 0), (25, .d (.sl (ZEy b))), (26, .d (.int .i64 b.length)), (27, .d (.int .i64 i))],
        [(0, some (.box [.own 1 0 c.w.pages.length, .own 2 0 c.w.late.length, .d (.int .i64 c.w.next), .own 3 c.w.uo (c.w.ua.length - c.w.uo), .own 4 0 c.w.gone.length, .own 5 0 c.w.fresh.length, .d (.bool c.bad)])),
         (1, some (.arr 1 (strs c.w.pages))), (2, some (.arr 2 (Zae c.w.late))), (3, some (.arr 1 (ints c.w.ua))), (4, some (.arr 1 (ints c.w.gone))), (5, some (.arr 1 (ints c.w.fresh))), (6, some (.arr 2 (ZEy out))),
         (7, some (.box [.d (.bool false), .own 8 0 ((b.take i).map (·.Zr)).length, .own 9 0 0, .own 10 0 ((b.take i).map (·.Zl)).length])), (8, some (.arr 1 (strs ((b.take i).map (·.Zr))))), (9, some (.arr 1 [])), (10, some (.arr 1 (ints ((b.take i).map (·.Zl)))))]⟩)
      (fun i => i ≤ b.length) (fun i => b.length - i) 0 ?_ (Nat.zero_le _) ?_
    · rw [← hb2]; rfl
    rintro i k1;simp -implicitDefEqProofs only [go_sem];refine fork (fun h6 => ?_) (fun h6 => ?_)
    · obtain ⟨p, hp⟩ := Z3 h6
      simp -implicitDefEqProofs only [go_sem, ZFY hp];repeat ((first | refine rq ?_ | fail); simp -implicitDefEqProofs only [go_sem, ZFY hp])
      refine ZP (i + 1) ?_ (by omega) (by omega);rw [Z7 hp, ZV (by simp only [LEN]; omega)];simp
    · have hb0 : 0 < b.length := by omega
      obtain ⟨q, hq⟩ := Z3 (l := b) (i := 0) (by omega);have hk0 : lget (strs (b.map (·.Zr))) 0 = [.str (Zy2 b)] := by
        cases b with
        | nil => simp at hb0
        | cons x xs => rfl
      rw [List.take_of_length_le (show b.length ≤ i by omega)];simp -implicitDefEqProofs only [go_sem];repeat ((first | refine req (by simp only [List.length_map]; omega) ?_ | refine rq ?_ | fail); simp -implicitDefEqProofs only [go_sem, hk0])
      have hm : b.length ≤ 4 := by omega
      refine Za3 false (n := 0) (xs := [.agg (kidB b).cells]) (ZGA c (kidB b) i3 (by simp only [kidB, List.length_map, LEN]; omega) (by simp [kidB]) (by simp only [kidB, List.length_map, LEN]; omega)) rfl rfl rfl (by simp -implicitDefEqProofs only [go_sem, Z1.cells, kidB]; first | done | rfl) rfl rfl rfl rfl (.inr (.inr ⟨Ze9 rfl, ZFV⟩)) ?_;have hs2 := ZFS (n := kidB b) i3;have hstep : ZFX c out (ZaR (l.drop (4 * j))) = ZFX (ZFC c (kidB b)).1 (out ++ [⟨Zy2 b, (ZFC c (kidB b)).2⟩]) (ZaR (l.drop (4 * (j + 1)))) := by
        rw [Zhz (by omega), ZFX, ← hb2]; rfl
      rw [hstep] at i5;generalize hv : ZFC c (kidB b) = v at i5 hs2 ⊢;obtain ⟨c2, pg⟩ := v;simp only at i5 hs2;simp -implicitDefEqProofs only [go_sem, ZFT];repeat ((first | refine rq ?_ | fail); simp -implicitDefEqProofs only [go_sem, ZFT])
      simp -implicitDefEqProofs only [go_sem, w4];repeat ((first | refine rq ?_ | fail); simp -implicitDefEqProofs only [go_sem, w4])
      refine ZP (j + 1, c2, out ++ [⟨Zy2 b, pg⟩]) ?_ ⟨by simp only; omega, hs2, by simp; omega, i5⟩ (by simp only; omega);simp
  · have he : ZaR (l.drop (4 * j)) = [] := ZlD (by omega)
    rw [he, ZFX] at i5;rw [← i5];simp -implicitDefEqProofs only [go_sem];rfl
@[go_sem] def hr80:ZW:=hh [[0],[0],[0,5,6],[0,5,6],[0,3,5,6],[],[0,5,6],[]]
@[go_sem] def hl80:ZW:=hh [[],[],[0,5,6]]
attribute [go_sem] Go.Proofs.Tryz.results80
theorem ZF0 (l:List ZR) (hl:l.length≤LEN):ZQ Go.Proofs.Tryz.prog 80 [.d (.sl (Zaj l))] [] [.dead] (.d (.bool (decide (ascK (l.map (·.Zi)))))) []:=by
 refine cof Go.Proofs.Tryz.func80 hr80 hl80 [false] ?_;simp -implicitDefEqProofs only [go_sem];refine ZY (α:=Nat) (fun i=>⟨[(0,.d (.sl (Zaj l))),(5,.d (.int .i64 l.length)),(6,.d (.int .i64 i))],[]⟩)
  (fun i=>i≤l.length∧ascK ((l.map (·.Zi)).take i)) (fun i=>l.length - i) 0 rfl ⟨Nat.zero_le _,by simp [ascK]⟩ ?_
 rintro i ⟨h2,h3⟩;simp -implicitDefEqProofs only [go_sem];refine fork (fun h5=>?_) (fun h5=>?_)
 ·obtain ⟨p,hp⟩:=Z3 h5;have hpk:(l.map (·.Zi))[i]? =some p.Zi:=by rw [List.getElem?_map,hp];rfl
  rcases Nat.eq_zero_or_pos i with hi|hi
  ·have hg:decide ((0:Int)<(i:Int))=false:=decide_eq_false (by omega);simp -implicitDefEqProofs only [go_sem,hg];repeat ((first|refine rq ?_|fail);simp -implicitDefEqProofs only [go_sem,hg])
   rw [ZV (by omega)];refine ZP (i+1) rfl ⟨by omega,?_⟩ (by omega);subst hi;rw [Z7 hpk];simp [ascK]
  ·obtain ⟨j,rfl⟩:∃j,i=j+1:=⟨i - 1,by omega⟩;obtain ⟨q,hq⟩:=Z3 (l:=l) (i:=j) (by omega);have hqk:(l.map (·.Zi))[j]? =some q.Zi:=by rw [List.getElem?_map,hq];rfl
   have hg:decide ((0:Int)<((j+1:Nat):Int))=true:=decide_eq_true (by omega);have hj:IntKind.i64.wrap (((j+1:Nat):Int) - 1)=(j:Int):=by simp only [LEN] at hl;rw [Zad (by omega) (by omega)];omega
   simp -implicitDefEqProofs only [go_sem,hg,hj,Zar hp,Zar hq];repeat ((first|refine rq ?_|fail);simp -implicitDefEqProofs only [go_sem,hg,hj,Zar hp,Zar hq])
   cases hlt:Zax q.Zi p.Zi
   ·simp -implicitDefEqProofs only [go_sem];have:¬ascK (l.map (·.Zi)):=fun h=>by rw [Zmv h hqk hpk] at hlt;cases hlt
    simp [this]
   ·simp -implicitDefEqProofs only [go_sem];rw [ZV (by omega)];refine ZP (j+2) rfl ⟨by omega,Zkl h3 hqk hpk hlt⟩ (by omega)
 ·rw [List.take_of_length_le (by simp;omega)] at h3;simp -implicitDefEqProofs only [go_sem];simp [h3]
def ZF1 (l:List ZR) (hl:l.length≤LEN):=kf (ZF0 l hl)
@[go_sem] def hr34:ZW:=hh [[0,1],[1,2,4],[2,4],[1,2,4],[1,2,4,7],[2,4,7,8],[2,4,7,8],[2,4,7,8],[2,4],[4,7,8],[4,7],[4,7,8]]
@[go_sem] def hl34:ZW:=hh [[],[],[],[],[],[2,4,7,8]]
attribute [go_sem] Go.Proofs.Tryz.results34
theorem ZGa (w : ZS) (l : List ZR) (hw : smallW w) (hl : l.length ≤ 1048576) : ZQ Go.Proofs.Tryz.prog 34 [.d (.agg w.cells), .d (.sl (Zaj l))] [] [.dead, .dead] (.tup [(ZF3 w l).1.v, .d (.int .i64 (ZF3 w l).2.1), .d (.bool (ZF3 w l).2.2)]) (ZF3 w l).1.h := by
  refine cof Go.Proofs.Tryz.func34 hr34 hl34 [false, false] ?_;simp -implicitDefEqProofs only [go_sem, ZS.cells];refine ZF1 l (by simp only [LEN]; omega) rfl ?_;rw [ZF3];cases ha : decide (ascK (l.map (·.Zi)))
  · simp -implicitDefEqProofs only [go_sem]
    repeat ((first | refine rq ?_ | refine ZDN w hw rfl ?_ | fail); simp -implicitDefEqProofs only [go_sem, OW.v_eq, OW.h_eq])
    rfl
  · simp -implicitDefEqProofs only [go_sem]
    repeat ((first | refine rq ?_ | refine ZDN w hw rfl ?_ | fail); simp -implicitDefEqProofs only [go_sem, OW.v_eq, OW.h_eq])
    refine Za3 false (n := 7) (xs := [.sl (Zaj l)]) (ZGB ⟨ofW w, false⟩ l hw rfl hl) rfl rfl rfl rfl rfl rfl rfl rfl (.inr (.inl rfl)) ?_;rw [ZGb];have hs2 := ZF4 (bs := ZaR l) (c := ⟨ofW w, false⟩) (out := []) hw;have hle := ZGd (c := ⟨ofW w, false⟩) (l := l);generalize hv : ZFR ⟨ofW w, false⟩ [] (ZaR l) = v at hs2 hle ⊢;obtain ⟨c0, k0⟩ := v;simp only at hs2 hle ⊢;simp -implicitDefEqProofs only [go_sem, ZFT];repeat ((first | refine rq ?_ | fail); simp -implicitDefEqProofs only [go_sem, ZFT])
    refine ZY (α := Nat × Ch × List GKid) (fun x => ⟨[(2, .ref 0 0), (4, .ref 1 0), (7, .ref 7 0), (8, .own 13 0 x.2.2.length)],
      [(0, some (.box [.d (.sl (strs w.Zc.Zv)), .d (.sl (Zae w.Zc.Zm)), .d (.int .i64 w.Zs), .d (.sl (ints w.ZH)), .d (.sl (ints w.Zg)), .d (.sl (ints w.Zf))])),
       (1, some (.box [.own 2 0 0, .own 3 0 0, .d (.int .i64 0), .own 4 0 0, .own 5 0 0, .own 6 0 0])), (2, some (.arr 1 [])), (3, some (.arr 2 [])), (4, some (.arr 1 [])), (5, some (.arr 1 [])), (6, some (.arr 1 [])),
       (7, some (.box [.own 8 0 x.2.1.w.pages.length, .own 9 0 x.2.1.w.late.length, .d (.int .i64 x.2.1.w.next), .own 10 x.2.1.w.uo (x.2.1.w.ua.length - x.2.1.w.uo), .own 11 0 x.2.1.w.gone.length, .own 12 0 x.2.1.w.fresh.length, .d (.bool x.2.1.bad)])),
       (8, some (.arr 1 (strs x.2.1.w.pages))), (9, some (.arr 2 (Zae x.2.1.w.late))), (10, some (.arr 1 (ints x.2.1.w.ua))), (11, some (.arr 1 (ints x.2.1.w.gone))), (12, some (.arr 1 (ints x.2.1.w.fresh))), (13, some (.arr 2 (ZEy x.2.2)))]⟩)
      (fun x => x.2.2.length ≤ x.1 ∧ x.1 ≤ l.length ∧ smallW x.2.1.w.work ∧ ZF2 x.1 x.2.1 x.2.2 = ZF2 l.length c0 k0) (fun x => x.1) (l.length, c0, k0) rfl ⟨hle, Nat.le_refl _, hs2, rfl⟩ ?_
    rintro ⟨f, ⟨cw, cb⟩, k⟩ ⟨i1, i2, i3, i4⟩;simp only at i1 i2 i3 i4;simp -implicitDefEqProofs only [go_sem];cases cb
    · by_cases hk : (1 : Int) < k.length
      · have dk := decide_eq_true hk
        simp -implicitDefEqProofs only [go_sem, dk];repeat ((first | refine rq ?_ | fail); simp -implicitDefEqProofs only [go_sem, dk])
        have hless := ZGc (c := ⟨cw, false⟩) (k := k) (by omega);have hs3 := ZF6 (bs := ZaR k) (c := ⟨cw, false⟩) (out := []) i3;obtain ⟨f, rfl⟩ : ∃ g, f = g + 1 := ⟨f - 1, by omega⟩;rw [ZF9 rfl (by omega)] at i4;refine Za3 true (n := 7) (xs := [.sl (ZEy k)]) (ZGC ⟨cw, false⟩ k i3 (by omega)) rfl rfl rfl (by simp -implicitDefEqProofs only [go_sem]; first | done | rfl) rfl rfl rfl rfl (.inl rfl) ?_;generalize hv2 : ZFX ⟨cw, false⟩ [] (ZaR k) = v at hless hs3 i4 ⊢;obtain ⟨c2, k2⟩ := v;simp only at hless hs3 i4 ⊢;simp -implicitDefEqProofs only [go_sem, ZFT]
        repeat ((first | refine rq ?_ | fail); simp -implicitDefEqProofs only [go_sem, ZFT])
        refine ZP (f, c2, k2) (by first | rfl | simp) ⟨by simp only; omega, by simp only; omega, hs3, i4⟩ (by simp only; omega)
      · have dk := decide_eq_false hk
        rw [ZF5 (by simp only; omega)] at i4;rw [← i4];simp -implicitDefEqProofs only [go_sem, dk];repeat ((first | refine rq ?_ | fail); simp -implicitDefEqProofs only [go_sem, dk])
        cases k with
        | nil =>
          have d0 : decide (((0 : Nat) : Int) = 0) = true := rfl;simp -implicitDefEqProofs only [go_sem, d0];repeat ((first | refine rq ?_ | fail); simp -implicitDefEqProofs only [go_sem, d0, OW.v_eq, OW.h_eq])
          rfl
        | cons x xs =>
          have d0 : decide (((xs.length + 1 : Nat) : Int) = 0) = false := decide_eq_false (by omega);have hx : lget (ZEy (x :: xs)) 0 = [.str x.Zr, .int .i64 x.Zl] := rfl;simp -implicitDefEqProofs only [go_sem, d0, hx];repeat ((first | refine rq ?_ | fail); simp -implicitDefEqProofs only [go_sem, d0, hx, OW.v_eq, OW.h_eq])
          rfl
    · rw [ZF5 (by simp)] at i4
      rw [← i4];simp -implicitDefEqProofs only [go_sem];repeat ((first | refine rq ?_ | refine ZDN w hw rfl ?_ | fail); simp -implicitDefEqProofs only [go_sem, OW.v_eq, OW.h_eq])
      rfl
theorem ZGe {h:Heap} {tb:Nat} {K:OK} {args:List V} {ls:List Nat} (w:ZS) (l:List ZR) (hw:smallW w) (hl:l.length≤1048576) (hg:toDs h args=some ([.agg w.cells,.sl (Zaj l)],ls))
  (hk:K (renV (bk tb ((ZF3 w l).1.h)) (.tup [(ZF3 w l).1.v,.d (.int .i64 (ZF3 w l).2.1),.d (.bool (ZF3 w l).2.2)])) (updN tb ((ZF3 w l).1.h) ((ZF3 w l).1.h))):Z2 Go.Proofs.Tryz.prog h tb 34 args K:=
 ZcM hg (ZGa w l hw hl) rfl (.inr ⟨Ze9 rfl,Zre⟩) hk
end Go.Rx
