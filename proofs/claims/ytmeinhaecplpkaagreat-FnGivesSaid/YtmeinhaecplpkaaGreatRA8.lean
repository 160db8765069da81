/-
  Part A8: lemmas on an evaluator over plain data of the model's code, plain laws on lists and numbers, or contracts of functions of the program; each lemma names its conditions.
-/
import Derived.Test.YtmeinhaecplpkaaGreatRA1
import Derived.Test.YtmeinhaecplpkaaGreatRP2
import Derived.Test.YtmeinhaecplpkaaGreatRE6

set_option linter.unusedSimpArgs false
set_option linter.unusedVariables false
namespace Go.Rx
open Go
attribute [local irreducible] Req Way WayG Sel callVC CallOK seqVC cVC loopVC nextK
@[go_sem] def hr79:Hints
 |0=> [0]|1=> [0]|2=> [0]|3=> [0,3]|4=> [0,3]|5=> [0,3]|6=> [0,3]|_=> []
@[go_sem] def hl79:Hints:=fun _=> []
attribute [go_sem] Go.Proofs.Tryz.results79
set_option maxRecDepth 100000 in
set_option maxHeartbeats 16000000 in
theorem cs_l01Byte (c:Cur) (hc:c.ok):CallOK Go.Proofs.Tryz.prog 79 [.ref 0 0] [(0,.box c.cells)] [.ref 0 0] (.d (.int .i64 c.byte.1)) [(0,.box c.byte.2.cells)]:=by
 refine call_of tysZOK mixedZ Go.Proofs.Tryz.func79 (by kernel_rfl) rfl (np:=[true]) (by kernel_rfl) hr79 hl79 (by simp [Go.Proofs.Tryz.ntmps79]) ?_
 simp -implicitDefEqProofs only [go_sem,Cur.cells]
 obtain ⟨hc1,hc2⟩:=hc
 repeat ((first|refine rq ?_|fail);simp -implicitDefEqProofs only [go_sem,bys_length])
 refine way_dec (fun h1=>?_) (fun h1=>?_)
 ·obtain ⟨p,hp⟩:=some_at h1
  simp -implicitDefEqProofs only [go_sem,bys_length,lget_bys hp]
  repeat ((first|refine rq ?_|fail);simp -implicitDefEqProofs only [go_sem,bys_length,lget_bys hp])
  rw [wrap_succ (by simp only [LEN];omega)]
  simp only [Cur.byte,hp]
  rfl
 ·simp -implicitDefEqProofs only [go_sem,bys_length]
  repeat ((first|refine rq ?_|fail);simp -implicitDefEqProofs only [go_sem,bys_length])
  have hp:c.b[c.i]? =none:=by simp;omega
  simp only [Cur.byte,hp]
  rfl
theorem ks_l01Byte {h:Heap} {tb:Nat} {K:OK} {n0:Nat} {rest:List V} (c:Cur) (hc:c.ok) (hn:h n0=some (.box c.cells)) (hro:refO h n0=[n0]) (hr:toDs h rest=some ([],[])) (hnl:([]:List Nat).contains n0=false)
  (hk:K (renV (bx n0 tb [(0,.box c.byte.2.cells)]) (.d (.int .i64 c.byte.1))) ((bif false then ([]:List Nat).map (·,none) else [])++(n0,none)::updX n0 tb [(0,.box c.byte.2.cells)] [(0,.box c.byte.2.cells)])):callVC Go.Proofs.Tryz.prog h tb 79 (.ref n0 0::rest) K:=
 call_box_ false hn hro rfl hr hnl (cs_l01Byte c hc) rfl rfl (.inr (.inl rfl)) hk
@[go_sem] def hr80:Hints
 |0=> [0,1]|1=> [0,1]|2=> [0]|3=> [0,1]|4=> [0,1]|5=> [0,1]|6=> [0,1,5]|7=> [0,1,5,6]|8=> [0,1,5,6,7]|9=> [0,1,5,6,7,8]|_=> []
@[go_sem] def hl80:Hints:=fun _=> []
attribute [go_sem] Go.Proofs.Tryz.results80
set_option maxRecDepth 100000 in
set_option maxHeartbeats 16000000 in
theorem cs_l01Below (c:Cur) (n:Int) (hc:c.ok):CallOK Go.Proofs.Tryz.prog 80 [.ref 0 0,.d (.int .i64 n)] [(0,.box c.cells)] [.ref 0 0,.dead] (.d (.int .i64 (c.below n).1)) [(0,.box (c.below n).2.cells)]:=by
 refine call_of tysZOK mixedZ Go.Proofs.Tryz.func80 (by kernel_rfl) rfl (np:=[true,false]) (by kernel_rfl) hr80 hl80 (by simp [Go.Proofs.Tryz.ntmps80]) ?_
 simp -implicitDefEqProofs only [go_sem,Cur.cells]
 refine way_dec (fun h1=>?_) (fun h1=>?_)
 ·simp -implicitDefEqProofs only [go_sem,Cur.cells]
  simp only [Cur.below,if_pos h1]
 ·simp -implicitDefEqProofs only [go_sem,Cur.cells]
  refine way_dec (fun h2=>?_) (fun h2=>?_)
  ·simp -implicitDefEqProofs only [go_sem,Cur.cells]
   repeat ((first|refine ks_l01Byte c hc rfl rfl rfl rfl ?_|refine rq ?_|fail);simp -implicitDefEqProofs only [go_sem,Cur.cells])
   simp only [Cur.below,if_neg h1,if_pos h2]
  ·have g1:=Cur.byte_range (c:=c)
   have g2:=Cur.byte_range (c:=c.byte.2)
   have g3:=Cur.byte_range (c:=c.byte.2.byte.2)
   have g4:=Cur.byte_range (c:=c.byte.2.byte.2.byte.2)
   have o1:=Cur.byte_ok hc
   have o2:=Cur.byte_ok o1
   have o3:=Cur.byte_ok o2
   simp -implicitDefEqProofs only [go_sem,Cur.cells]
   repeat ((first|refine ks_l01Byte c.byte.2.byte.2.byte.2 o3 rfl rfl rfl rfl ?_|refine ks_l01Byte c.byte.2.byte.2 o2 rfl rfl rfl rfl ?_|refine ks_l01Byte c.byte.2 o1 rfl rfl rfl rfl ?_|refine ks_l01Byte c hc rfl rfl rfl rfl ?_|refine rq ?_|fail);simp -implicitDefEqProofs only [go_sem,Cur.cells])
   simp only [Cur.below,if_neg h1,if_neg h2]
   rw [wrap_int (n:=c.byte.1*16777216) (by omega) (by omega),wrap_int (n:=c.byte.2.byte.1*65536) (by omega) (by omega),wrap_int (n:=c.byte.2.byte.2.byte.1*256) (by omega) (by omega),
    wrap_int (n:=c.byte.1*16777216+c.byte.2.byte.1*65536) (by omega) (by omega),wrap_int (n:=c.byte.1*16777216+c.byte.2.byte.1*65536+c.byte.2.byte.2.byte.1*256) (by omega) (by omega),
    wrap_int (n:=c.byte.1*16777216+c.byte.2.byte.1*65536+c.byte.2.byte.2.byte.1*256+c.byte.2.byte.2.byte.2.byte.1) (by omega) (by omega)]
theorem ks_l01Below {h:Heap} {tb:Nat} {K:OK} {n0:Nat} {rest:List V} (c:Cur) (n:Int) (hc:c.ok) (hn:h n0=some (.box c.cells)) (hro:refO h n0=[n0]) (hr:toDs h rest=some ([.int .i64 n],[])) (hnl:([]:List Nat).contains n0=false)
  (hk:K (renV (bx n0 tb [(0,.box (c.below n).2.cells)]) (.d (.int .i64 (c.below n).1))) ((bif false then ([]:List Nat).map (·,none) else [])++(n0,none)::updX n0 tb [(0,.box (c.below n).2.cells)] [(0,.box (c.below n).2.cells)])):callVC Go.Proofs.Tryz.prog h tb 80 (.ref n0 0::rest) K:=
 call_box_ false hn hro rfl hr hnl (cs_l01Below c n hc) rfl rfl (.inr (.inl rfl)) hk
@[go_sem] def hr147:Hints
 |0=> [0,1]|1=> [0,1]|_=> []
@[go_sem] def hl147:Hints:=fun _=> []
attribute [go_sem] Go.Proofs.Tryz.results147
set_option maxRecDepth 100000 in
set_option maxHeartbeats 16000000 in
theorem cs_l01Once (c:Cur) (n:Int) (hc:c.ok):CallOK Go.Proofs.Tryz.prog 147 [.ref 0 0,.d (.int .i64 n)] [(0,.box c.cells)] [.ref 0 0,.dead] (.d (.bool (c.once n).1)) [(0,.box (c.once n).2.cells)]:=by
 refine call_of tysZOK mixedZ Go.Proofs.Tryz.func147 (by kernel_rfl) rfl (np:=[true,false]) (by kernel_rfl) hr147 hl147 (by simp [Go.Proofs.Tryz.ntmps147]) ?_
 simp -implicitDefEqProofs only [go_sem,Cur.cells]
 repeat ((first|refine ks_l01Below c n hc rfl rfl rfl rfl ?_|refine rq ?_|fail);simp -implicitDefEqProofs only [go_sem,Cur.cells])
 rfl
theorem ks_l01Once {h:Heap} {tb:Nat} {K:OK} {n0:Nat} {rest:List V} (c:Cur) (n:Int) (hc:c.ok) (hn:h n0=some (.box c.cells)) (hro:refO h n0=[n0]) (hr:toDs h rest=some ([.int .i64 n],[])) (hnl:([]:List Nat).contains n0=false)
  (hk:K (renV (bx n0 tb [(0,.box (c.once n).2.cells)]) (.d (.bool (c.once n).1))) ((bif false then ([]:List Nat).map (·,none) else [])++(n0,none)::updX n0 tb [(0,.box (c.once n).2.cells)] [(0,.box (c.once n).2.cells)])):callVC Go.Proofs.Tryz.prog h tb 147 (.ref n0 0::rest) K:=
 call_box_ false hn hro rfl hr hnl (cs_l01Once c n hc) rfl rfl (.inr (.inl rfl)) hk
@[go_sem] def hr146:Hints
 |0=> [0,1]|1=> [0,1]|_=> []
@[go_sem] def hl146:Hints:=fun _=> []
attribute [go_sem] Go.Proofs.Tryz.results146
set_option maxRecDepth 100000 in
set_option maxHeartbeats 16000000 in
theorem cs_l01Pick (c:Cur) (l:List (List UInt8)) (hl:l≠ []) (hc:c.ok):CallOK Go.Proofs.Tryz.prog 146 [.ref 0 0,.d (.sl (strs l))] [(0,.box c.cells)] [.ref 0 0,.dead] (.d (.str (c.pick l).1)) [(0,.box (c.pick l).2.cells)]:=by
 refine call_of tysZOK mixedZ Go.Proofs.Tryz.func146 (by kernel_rfl) rfl (np:=[true,false]) (by kernel_rfl) hr146 hl146 (by simp [Go.Proofs.Tryz.ntmps146]) ?_
 have hl':0<l.length:=List.length_pos_iff.2 hl
 have hr:=Cur.below_range (c:=c) (n:=l.length) (by omega)
 obtain ⟨p,hp⟩:=some_at (l:=l) (i:=(c.below l.length).1.toNat) (by omega)
 have hpk:(c.pick l).1=p:=by unfold Cur.pick;simp [List.getD,hp]
 simp -implicitDefEqProofs only [go_sem,Cur.cells,strs_length]
 repeat ((first|refine ks_l01Below c _ hc rfl rfl rfl rfl ?_|refine req (by first|exact hr.1|exact hr.2) ?_|refine rq ?_|fail);simp -implicitDefEqProofs only [go_sem,Cur.cells,strs_length,lget_strs hp])
 rw [hpk]
 rfl
theorem ks_l01Pick {h:Heap} {tb:Nat} {K:OK} {n0:Nat} {rest:List V} {ls:List Nat} (c:Cur) (l:List (List UInt8)) (hl:l≠ []) (hc:c.ok) (hn:h n0=some (.box c.cells)) (hro:refO h n0=[n0]) (hr:toDs h rest=some ([.sl (strs l)],ls)) (hnl:(ls:List Nat).contains n0=false)
  (hk:K (renV (bx n0 tb [(0,.box (c.pick l).2.cells)]) (.d (.str (c.pick l).1))) ((bif true then (ls:List Nat).map (·,none) else [])++(n0,none)::updX n0 tb [(0,.box (c.pick l).2.cells)] [(0,.box (c.pick l).2.cells)])):callVC Go.Proofs.Tryz.prog h tb 146 (.ref n0 0::rest) K:=
 call_box_ true hn hro rfl hr hnl (cs_l01Pick c l hl hc) rfl rfl (.inl rfl) hk
@[go_sem] def hr173:Hints
 |0=> [0,1]|1=> [0,1]|_=> []
@[go_sem] def hl173:Hints:=fun _=> []
attribute [go_sem] Go.Proofs.Tryz.results173
set_option maxRecDepth 100000 in
set_option maxHeartbeats 16000000 in
theorem cs_l01PickInt (c:Cur) (l:List Int) (hl:l≠ []) (hc:c.ok):CallOK Go.Proofs.Tryz.prog 173 [.ref 0 0,.d (.sl (ints l))] [(0,.box c.cells)] [.ref 0 0,.dead] (.d (.int .i64 (c.pickI l).1)) [(0,.box (c.pickI l).2.cells)]:=by
 refine call_of tysZOK mixedZ Go.Proofs.Tryz.func173 (by kernel_rfl) rfl (np:=[true,false]) (by kernel_rfl) hr173 hl173 (by simp [Go.Proofs.Tryz.ntmps173]) ?_
 have hl':0<l.length:=List.length_pos_iff.2 hl
 have hr:=Cur.below_range (c:=c) (n:=l.length) (by omega)
 obtain ⟨p,hp⟩:=some_at (l:=l) (i:=(c.below l.length).1.toNat) (by omega)
 have hpk:(c.pickI l).1=p:=by unfold Cur.pickI;simp [List.getD,hp]
 simp -implicitDefEqProofs only [go_sem,Cur.cells,ints_length]
 repeat ((first|refine ks_l01Below c _ hc rfl rfl rfl rfl ?_|refine req (by first|exact hr.1|exact hr.2) ?_|refine rq ?_|fail);simp -implicitDefEqProofs only [go_sem,Cur.cells,ints_length,lget_ints hp])
 rw [hpk]
 rfl
theorem ks_l01PickInt {h:Heap} {tb:Nat} {K:OK} {n0:Nat} {rest:List V} {ls:List Nat} (c:Cur) (l:List Int) (hl:l≠ []) (hc:c.ok) (hn:h n0=some (.box c.cells)) (hro:refO h n0=[n0]) (hr:toDs h rest=some ([.sl (ints l)],ls)) (hnl:(ls:List Nat).contains n0=false)
  (hk:K (renV (bx n0 tb [(0,.box (c.pickI l).2.cells)]) (.d (.int .i64 (c.pickI l).1))) ((bif true then (ls:List Nat).map (·,none) else [])++(n0,none)::updX n0 tb [(0,.box (c.pickI l).2.cells)] [(0,.box (c.pickI l).2.cells)])):callVC Go.Proofs.Tryz.prog h tb 173 (.ref n0 0::rest) K:=
 call_box_ true hn hro rfl hr hnl (cs_l01PickInt c l hl hc) rfl rfl (.inl rfl) hk
@[go_sem] def hr92:Hints
 |0=> [0]|1=> [0]|_=> []
@[go_sem] def hl92:Hints:=fun _=> []
attribute [go_sem] Go.Proofs.Tryz.results92
set_option maxRecDepth 100000 in
set_option maxHeartbeats 16000000 in
theorem cs_l05Key (c:Cur) (hc:c.ok):CallOK Go.Proofs.Tryz.prog 92 [.ref 0 0] [(0,.box c.cells)] [.ref 0 0] (.d (.str c.key.1)) [(0,.box c.key.2.cells)]:=by
 refine call_of tysZOK mixedZ Go.Proofs.Tryz.func92 (by kernel_rfl) rfl (np:=[true]) (by kernel_rfl) hr92 hl92 (by simp [Go.Proofs.Tryz.ntmps92]) ?_
 simp -implicitDefEqProofs only [go_sem,Cur.cells]
 repeat ((first|refine ks_l01Pick c keyL (by decide) hc rfl rfl rfl rfl ?_|refine rq ?_|fail);simp -implicitDefEqProofs only [go_sem,Cur.cells])
 try rfl
theorem ks_l05Key {h:Heap} {tb:Nat} {K:OK} {n0:Nat} {rest:List V} (c:Cur) (hc:c.ok) (hn:h n0=some (.box c.cells)) (hro:refO h n0=[n0]) (hr:toDs h rest=some ([],[])) (hnl:([]:List Nat).contains n0=false)
  (hk:K (renV (bx n0 tb [(0,.box c.key.2.cells)]) (.d (.str c.key.1))) ((bif false then ([]:List Nat).map (·,none) else [])++(n0,none)::updX n0 tb [(0,.box c.key.2.cells)] [(0,.box c.key.2.cells)])):callVC Go.Proofs.Tryz.prog h tb 92 (.ref n0 0::rest) K:=
 call_box_ false hn hro rfl hr hnl (cs_l05Key c hc) rfl rfl (.inr (.inl rfl)) hk
@[go_sem] def hr75:Hints
 |0=> [0]|1=> [0]|2=> [0,3]|3=> [0,3,4]|4=> [0,3,4]|5=> [0,3,4]|6=> [0,3]|_=> []
@[go_sem] def hl75:Hints
 |3=> [0,3,4]|_=> []
attribute [go_sem] Go.Proofs.Tryz.results75
set_option maxRecDepth 100000 in
set_option maxHeartbeats 16000000 in
theorem cs_l01New (code:List UInt8) (hl:code.length≤1048576):CallOK Go.Proofs.Tryz.prog 75 [.d (.sl (bys code))] [] [.dead] (.ref 0 0) [(0,.box (Cur.new code).cells)]:=by
 refine call_of tysZOK mixedZ Go.Proofs.Tryz.func75 (by kernel_rfl) rfl (np:=[false]) (by kernel_rfl) hr75 hl75 (by simp [Go.Proofs.Tryz.ntmps75]) ?_
 simp -implicitDefEqProofs only [go_sem,bys_length]
 refine loop_data (α:=Nat×Int) (fun x=>⟨[(0,.d (.sl (bys code))),(3,.d (.int .i64 x.2)),(4,.d (.int .i64 x.1))],[]⟩)
  (fun x=>x.1≤code.length∧x.1≤4000∧x.2=(code.take x.1).foldl hRound (IntKind.i64.wrap (38301+code.length))) (fun x=>4000 - x.1) (0,IntKind.i64.wrap (38301+code.length)) rfl ⟨Nat.zero_le _,Nat.zero_le _,rfl⟩ ?_
 rintro ⟨i,h⟩ ⟨h2,h3,h4⟩
 simp only at h2 h3 h4
 simp -implicitDefEqProofs only [go_sem,bys_length]
 refine wayT_dec (fun h5=>?_) (fun h5=>?_)
 ·simp -implicitDefEqProofs only [go_sem,bys_length]
  refine way_dec (fun h6=>?_) (fun h6=>?_)
  ·obtain ⟨p,hp⟩:=some_at h5
   simp -implicitDefEqProofs only [go_sem,bys_length,lget_bys hp]
   repeat ((first|refine rq ?_|fail);simp -implicitDefEqProofs only [go_sem,bys_length,lget_bys hp])
   rw [wrap_succ (by simp only [LEN];omega)]
   refine next_data (i+1,hRound h p) rfl ⟨?_,?_,?_⟩ ?_
   ·simp only;omega
   ·simp only;omega
   ·simp only;rw [take_snoc hp,List.foldl_append,←h4,List.foldl_cons,List.foldl_nil]
   ·simp only;omega
  ·simp -implicitDefEqProofs only [go_sem,bys_length]
   repeat ((first|refine rq ?_|fail);simp -implicitDefEqProofs only [go_sem,bys_length])
   rw [hNew_out h2 h3 h4 (.inr (by omega))]
   rfl
 ·simp -implicitDefEqProofs only [go_sem,bys_length]
  repeat ((first|refine rq ?_|fail);simp -implicitDefEqProofs only [go_sem,bys_length])
  rw [hNew_out h2 h3 h4 (.inl (by omega))]
  rfl
theorem ks_l01New {h:Heap} {tb:Nat} {K:OK} {args:List V} (code:List UInt8) (hl:code.length≤1048576) (hg:toDs h args=some ([.sl (bys code)],[]))
  (hk:K (renV (bk tb ([(0,.box (Cur.new code).cells)])) (.ref 0 0)) (updN tb ([(0,.box (Cur.new code).cells)]) ([(0,.box (Cur.new code).cells)]))):callVC Go.Proofs.Tryz.prog h tb 75 args K:=
 call_free hg (cs_l01New code hl) rfl (.inl rfl) hk
end Go.Rx
namespace Go.Rx
open Go
attribute [local irreducible] Req Way WayG Sel callVC CallOK seqVC cVC loopVC nextK
theorem pairS_snoc' {l:List GPair} {a b:List UInt8}:(GPairS l).take l.length++[[D.str a,D.str b]]=GPairS (l++[⟨a,b⟩]):=by
 rw [GPairS_all];simp [GPairS,GPair.cells]
@[go_sem] def hr72:Hints
 |0=> [0,1,2]|1=> [0,1,2]|2=> [0,1,2,7]|3=> [0,1,2,7,8]|4=> [0,1,2,7,8]|5=> [0,1,2,7,8]|6=> [0,1,2,7,8]|7=> [0,1,2,7]|8=> [0,1,7]|9=> [0,1,7,9]|10=> [0,1,7,9]|11=> [0,1,7,9]|12=> [0,1,7,9]|13=> [7]|_=> []
@[go_sem] def hl72:Hints
 |3=> [0,1,2,7,8]|9=> [0,1,7,9]|_=> []
attribute [go_sem] Go.Proofs.Tryz.results72
set_option maxRecDepth 100000 in
set_option maxHeartbeats 16000000 in
theorem cs_ModelPut (l:List GPair) (key val:List UInt8) (hl:l.length≤1048576):CallOK Go.Proofs.Tryz.prog 72 [.d (.sl (GPairS l)),.d (.str key),.d (.str val)] [] [.dead,.dead,.dead] (.own 0 0 (mput l key val).length) [(0,.arr 2 (GPairS (mput l key val)))]:=by
 refine call_of tysZOK mixedZ Go.Proofs.Tryz.func72 (by kernel_rfl) rfl (np:=[false,false,false]) (by kernel_rfl) hr72 hl72 (by simp [Go.Proofs.Tryz.ntmps72]) ?_
 simp -implicitDefEqProofs only [go_sem,GPairS_length]
 repeat ((first|refine rq ?_|fail);simp -implicitDefEqProofs only [go_sem,GPairS_length])
 refine loop_data (α:=Nat) (fun i=>⟨[(0,.d (.sl (GPairS l))),(1,.d (.str key)),(2,.d (.str val)),(7,.own 0 0 (lesser (l.take i) key).length),(8,.d (.int .i64 i))],[(0,some (.arr 2 (GPairS (lesser (l.take i) key))))]⟩)
  (fun i=>i≤l.length) (fun i=>l.length - i) 0 rfl (Nat.zero_le _) ?_
 rintro i h2
 have hkl:=lesser_len (l:=l.take i) (key:=key)
 simp only [List.length_take] at hkl
 simp -implicitDefEqProofs only [go_sem,GPairS_length]
 refine way_dec (fun h5=>?_) (fun h5=>?_)
 ·obtain ⟨p,hp⟩:=some_at h5
  simp -implicitDefEqProofs only [go_sem,GPairS_length,lget_GPairS hp]
  repeat ((first|refine rq ?_|fail);simp -implicitDefEqProofs only [go_sem,GPairS_length,lget_GPairS hp])
  refine way (fun h6=>?_) (fun h6=>?_)
  ·simp -implicitDefEqProofs only [go_sem,GPairS_length,lget_GPairS hp]
   repeat ((first|refine rq ?_|fail);simp -implicitDefEqProofs only [go_sem,GPairS_length,lget_GPairS hp,pairS_snoc'])
   rw [wrap_succ (by simp only [LEN];omega)]
   refine next_data (i+1) ?_ (by omega) (by omega)
   rw [lesser_snoc hp,if_pos h6]
   simp
  ·simp -implicitDefEqProofs only [go_sem]
   rw [wrap_succ (by simp only [LEN];omega)]
   refine next_data (i+1) ?_ (by omega) (by omega)
   rw [lesser_snoc hp,if_neg (by simp [h6])]
   simp
 ·have hi:i=l.length:=by omega
  subst hi
  have hk2:=lesser_len (l:=l) (key:=key)
  simp -implicitDefEqProofs only [go_sem,GPairS_length,List.take_length]
  repeat ((first|refine rq ?_|fail);simp -implicitDefEqProofs only [go_sem,GPairS_length,List.take_length,pairS_snoc'])
  refine loop_data (α:=Nat) (fun i=>⟨[(0,.d (.sl (GPairS l))),(1,.d (.str key)),(7,.own 0 0 (mput1 l key val i).length),(9,.d (.int .i64 i))],[(0,some (.arr 2 (GPairS (mput1 l key val i))))]⟩)
   (fun i=>i≤l.length) (fun i=>l.length - i) 0 (by simp [mput1,greater]) (Nat.zero_le _) ?_
  rintro i h7
  have hkl:=mput1_len (key:=key) (val:=val) (i:=i) hl
  simp -implicitDefEqProofs only [go_sem,GPairS_length]
  refine way_dec (fun h8=>?_) (fun h8=>?_)
  ·obtain ⟨p,hp⟩:=some_at h8
   simp -implicitDefEqProofs only [go_sem,GPairS_length,lget_GPairS hp]
   repeat ((first|refine rq ?_|fail);simp -implicitDefEqProofs only [go_sem,GPairS_length,lget_GPairS hp])
   refine way (fun h6=>?_) (fun h6=>?_)
   ·simp -implicitDefEqProofs only [go_sem,GPairS_length,lget_GPairS hp]
    repeat ((first|refine rq ?_|fail);simp -implicitDefEqProofs only [go_sem,GPairS_length,lget_GPairS hp,pairS_snoc'])
    rw [wrap_succ (by simp only [LEN];omega)]
    refine next_data (i+1) ?_ (by omega) (by omega)
    have:mput1 l key val (i+1)=mput1 l key val i++[p]:=by simp [mput1,greater_snoc hp,h6]
    rw [this]
    simp
   ·simp -implicitDefEqProofs only [go_sem]
    rw [wrap_succ (by simp only [LEN];omega)]
    refine next_data (i+1) ?_ (by omega) (by omega)
    have:mput1 l key val (i+1)=mput1 l key val i:=by simp [mput1,greater_snoc hp,h6]
    rw [this]
  ·have hi:i=l.length:=by omega
   subst hi
   simp -implicitDefEqProofs only [go_sem]
   have:mput1 l key val l.length=mput l key val:=by rw [mput_eq];simp [mput1]
   rw [this]
theorem cs_ModelPutF (l:List GPair) (key val:List UInt8) (hl:l.length≤1048576):CallOK Go.Proofs.Tryz.prog 72 [.d (.sl (GPairS l)),.d (.str key),.d (.str val)] [] [.dead,.dead,.dead] (.d (.sl (GPairS (mput l key val)))) []:=
 freeze_own (cs_ModelPut l key val hl) (by simp [GPairS]) rfl
@[go_sem] def hr103:Hints
 |0=> [0]|1=> [0]|2=> [0,3]|3=> [0,3,4]|4=> [0,3,4]|5=> [0,3,4]|6=> [0,3]|_=> []
@[go_sem] def hl103:Hints
 |3=> [0,3,4]|_=> []
attribute [go_sem] Go.Proofs.Tryz.results103
@[go_sem] def hr35:Hints
 |0=> [0]|1=> [0]|_=> []
@[go_sem] def hl35:Hints:=fun _=> []
attribute [go_sem] Go.Proofs.Tryz.results35
@[go_sem] def hr15:Hints
 |0=> [0]|1=> [0]|_=> []
@[go_sem] def hl15:Hints:=fun _=> []
attribute [go_sem] Go.Proofs.Tryz.results15
set_option maxRecDepth 100000 in
set_option maxHeartbeats 16000000 in
theorem cl_big (code:List UInt8):CallOK Go.Proofs.Tryz.prog 15 [.d (.sl (bys code))] [] [.dead] (.d (.bool (decide ((1048576:Int)<code.length)))) []:=by
 refine call_of tysZOK mixedZ Go.Proofs.Tryz.func15 (by kernel_rfl) rfl (np:=[false]) (by kernel_rfl) hr15 hl15 (by simp [Go.Proofs.Tryz.ntmps15]) ?_
 simp -implicitDefEqProofs only [go_sem,bys_length]
theorem kl_big {h:Heap} {tb:Nat} {K:OK} {args:List V} {ls:List Nat} (code:List UInt8) (hg:toDs h args=some ([.sl (bys code)],ls))
  (hk:K (renV (bk tb ([])) (.d (.bool (decide ((1048576:Int)<code.length))))) (updN tb ([]) ([]))):callVC Go.Proofs.Tryz.prog h tb 15 args K:=
 call_free hg (cl_big code) rfl (.inr ⟨flat_of rfl,flatHB_of rfl⟩) hk
@[go_sem] def hr21:Hints
 |0=> [0]|1=> [0]|2=> [3]|3=> [3]|4=> [3,4]|5=> [3,4,5]|6=> [3,4,5]|7=> [3,4,5]|8=> [4]|_=> []
@[go_sem] def hl21:Hints
 |5=> [3,4,5]|_=> []
attribute [go_sem] Go.Proofs.Tryz.results21
end Go.Rx
