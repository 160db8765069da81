/-
  Part RxSort: lemmas on an evaluator over plain data of the model's code, plain laws on lists and numbers, or contracts of functions of the program; each lemma names its conditions.
-/
import Derived.Test.YtflimjgjgligeaaGreatSE1
import Derived.Test.YtflimjgjgligeaaGreatSE2
import Derived.Test.YtflimjgjgligeaaGreatSE4
import Derived.Test.YtflimjgjgligeaaGreatSE5
import Derived.Test.YtflimjgjgligeaaGreatSE6
import Derived.Test.YtflimjgjgligeaaGreatSP2
import Derived.Test.YtflimjgjgligeaaGreatSP3
import Derived.Test.YtflimjgjgligeaaGreatSR0
import Derived.Shelf.Sort.Plain
import Derived.Shelf.Slices.In.SortNone

set_option linter.unusedSimpArgs false
set_option linter.unusedVariables false
namespace Go.Rx
open Go Go.RowKit Go.Shelf Go.Proofs
theorem ZzT (l:List Int):l.mergeSort (fun x y=>decide (x≤y))=ZaP l:=by
 refine Zgj ?_ Zfm ((List.mergeSort_perm _ _).trans Zbs.symm);have:=List.pairwise_mergeSort (le:=fun x y:Int=>decide (x≤y)) (fun a b c h1 h2=>by simp at h1 h2 ⊢;omega) (fun a b=>by simp;omega) l;exact this.imp fun h=>by simpa using h
theorem ZzS {o:AObj} {n:Nat} {o':AObj} (h:hget [(0,o)] n=some o'):n=0∧o'=o:=by
 unfold hget at h;cases e:(0==n) with
 |true=>
  rw [e] at h;have:0=n:=by simpa using e
  exact ⟨this.symm,(Option.some.inj h).symm⟩
 |false=>rw [e] at h;simp [hget] at h
theorem ZzR {o:AObj} {n:Nat} (h:hget [(0,o)] n≠none):n=0:=by
 cases h2:hget [(0,o)] n with
 |none=>exact absurd h2 h
 |some o'=>exact (ZzS h2).1
theorem int_of {w:World} {ok:Nat→Prop} {k:IntKind} {n:Int} {c:Value} (h:DRel w ok (.int k n) c):c= .int k n:=by cases h;rfl
theorem ZzU {P:Program} {ρ:Go.Shelf.Ren} (Ly:Lays.n189 P ρ) (hK:ZzQ P (ρ.f 189)) (l:List Int) (hl:l.length≤4611686018427387903):
  ZQ P (ρ.f 189) [.own 0 0 l.length] [(0,.arr 1 (ints l))] [.own 0 0 l.length] (.tup []) [(0,.arr 1 (ints (ZaP l)))]:=by
 refine ⟨hK,fun w vs lam ok hO hlen hrel=>?_⟩;obtain ⟨v,rfl⟩:∃v,vs=[v]:=by
  match vs,hlen with
  |[v],_=>exact ⟨v,rfl⟩
 have hv:=hrel 0 _ _ rfl rfl;have ho:=hO.obj 0 (.arr 1 (ints l)) rfl;have hsl:(ints (ZaP l)).length=(ints l).length:=by simp [ints,Zbw]
 cases hv with
 |own h1 h=>
  obtain ⟨hle,hcase⟩:=h 1 (ints l) rfl;obtain ⟨r1,r2,r3⟩:=ho;have hrow:∀e∈ints (ZaP l),e.length=1:=Zw4;rcases hcase with ⟨g1,rfl,g3⟩|⟨b,o,cap,cs,T,fr,g1,rfl,g3,g4,g5,g6⟩
  ·obtain rfl:l=[]:=List.length_eq_zero_iff.1 g3;refine (Any.slices_Sort_int_none Ly none 0 w).mono ?_;rintro e w' ⟨rfl,rfl⟩;exact ⟨_,lam,ok,rfl,Fr.refl _ _,hO,.tup rfl (fun i d v h=>by cases i<;>cases h),fun i x v h2 h3=>hrel i x v h2 h3,fun b hb=> .inl hb,fun n b h2 h3=> .inl ⟨n,h2,h3⟩⟩
  ·have hb:b<w.heap.size:=Zlc g5;rcases r3 with ⟨q1,_⟩|⟨b',cs',T',fr',q1,q2,q3,q4,q5⟩
   ·rw [g1] at q1;cases q1
   rw [g1] at q1;cases q1;rw [g5] at q2;cases q2;have hlen0:∀j,j<l.length→o=0:=fun j hj=>by rcases g4 with g4|g4<;>omega
   have hcs:(ints l).length=l.length:=Za7;have hH:Sort.Holds (Value.int .i64) w b o l.toArray:=fun j hj=>by
    have hj:j<l.length:=by simpa using hj
    obtain rfl:=hlen0 j hj;obtain ⟨c,hc,hd⟩:=q5 j [.int .i64 l[j]] 0 (.int .i64 l[j]) (by simp [ints,List.getElem?_eq_getElem hj]) rfl;obtain rfl:=int_of hd;have e:(l.toArray)[j]! =l[j]:=by simp [hj]
    rw [e];refine ⟨?_,q3.2 _⟩;simp only [World.cell?,g5,Nat.zero_add];simpa using hc
   refine (Any.slices_Sort_int Ly b o cap l w hH hb (by omega)).mono ?_;rintro e w' ⟨rfl,n,os,rfl⟩;rw [ZzT];have hheap:(Sort.grow (Sort.putRow (Value.int .i64) (Sort.ahead w n) b o (ZaP l).toArray) os).heap=w.heap.modify b (Sort.onCells (Sort.putCells (Value.int .i64) o (ZaP l).toArray))++os:=rfl;have hos:(Sort.grow (Sort.putRow (Value.int .i64) (Sort.ahead w n) b o (ZaP l).toArray) os).os=w.os∧(Sort.grow (Sort.putRow (Value.int .i64) (Sort.ahead w n) b o (ZaP l).toArray) os).tape=w.tape∧(Sort.grow (Sort.putRow (Value.int .i64) (Sort.ahead w n) b o (ZaP l).toArray) os).output=w.output:=⟨rfl,rfl,rfl⟩
   generalize Sort.grow (Sort.putRow (Value.int .i64) (Sort.ahead w n) b o (ZaP l).toArray) os=w' at hheap hos ⊢;have hsz:(Sort.putCells (Value.int .i64) o (ZaP l).toArray cs).size=cs.size:=by simp [Sort.putCells]
   have hb2:w'.heap[b]? =some (.cells (Sort.putCells (Value.int .i64) o (ZaP l).toArray cs) T fr):=by
    rw [hheap,Array.getElem?_append_left (by simpa using hb),Array.getElem?_modify,if_pos rfl,g5];rfl
   have hoth:∀k,k<w.heap.size→k≠b→w'.heap[k]? =w.heap[k]? :=fun k hk hkb=>by
    rw [hheap,Array.getElem?_append_left (by simpa using hk),Array.getElem?_modify,if_neg (Ne.symm hkb)]
   have hsize:w.heap.size≤w'.heap.size:=by rw [hheap];simp
   have h00:hget [(0,AObj.arr 1 (ints l))] 0≠none:=by simp [hget]
   refine ⟨_,lam,ok,rfl,⟨hos.1,hos.2.1,hos.2.2,hsize,fun k hk hu=>hoth k hk fun e=>hu ⟨0,h00,e▸g1⟩,ZmV hb2 (fun cs3 T3 fr3 e=>by rw [g5] at e;cases e;exact hsz) hoth⟩,?_,.tup rfl (fun i d v h=>by cases i<;>cases h),?_,fun b hb=> .inl hb,fun n b h2 h3=> .inl ⟨0,h00,ZzR h2▸h3⟩⟩
   ·refine ⟨fun n n' b' h1 h2 _ _=>by rw [ZzR h1,ZzR h2],fun n b' h1 h2=>?_,fun n b' h1 h2=>hO.dis 0 b' h00 (ZzR h1▸h2),fun b' h1=>Nat.lt_of_lt_of_le (hO.oklt b' h1) hsize,fun n o' h=>?_⟩
    ·rw [ZzR h1,g1] at h2;cases h2;omega
    ·obtain ⟨rfl,rfl⟩:=ZzS h;refine ⟨Zw4,by rw [hsl];exact r2,.inr ⟨b,_,T,fr,g1,hb2,⟨by rw [hsz];exact q3.1,fun i=>?_⟩,by rw [hsl,hsz];exact q4,fun i e j d h1 h2=>?_⟩⟩
     ·have:=q3.2 i;simp only [World.frozen?,hb2];simpa only [World.frozen?,g5] using this
     ·obtain ⟨x,hx,rfl⟩:∃x,(ZaP l)[i]? =some x∧[D.int .i64 x]=e:=by
       simpa [ints] using h1
      have hi:i<l.length:=by have:=(List.getElem?_eq_some_iff.1 hx).1;rwa [Zbw] at this
      obtain rfl:=hlen0 i hi;cases j with
      |succ j=>cases h2
      |zero=>
       cases h2;refine ⟨.int .i64 x,?_,.int _ _⟩;have hc:i<cs.size:=by omega
       have hx2:(ZaP l)[i]! =x:=by simp [List.getElem!_eq_getElem?_getD,hx]
       simp only [Sort.putCells,Array.getElem?_mapIdx,Nat.mul_one,Nat.add_zero,Array.getElem?_eq_getElem hc,Option.map_some,Nat.zero_add,Nat.zero_le,true_and,Nat.sub_zero];rw [if_pos (by simpa [Zbw] using hi)];congr 2;simpa using hx2
   ·intro i x v h2 h3;cases i with
    |succ i=>cases h2
    |zero=>
     cases h2;cases h3;refine .own ⟨_,_,_,rfl⟩ fun m xs hh=>?_;obtain ⟨_,e⟩:=ZzS hh;cases e;exact ⟨by rw [hsl];exact hle,.inr ⟨b,o,cap,_,T,fr,g1,rfl,g3,g4,hb2,by rw [hsz];exact g6⟩⟩
end Go.Rx

