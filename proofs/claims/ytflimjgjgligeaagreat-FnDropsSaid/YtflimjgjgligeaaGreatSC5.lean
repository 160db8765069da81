/-
  Part C5: lemmas on an evaluator over plain data of the model's code, plain laws on lists and numbers, or contracts of functions of the program; each lemma names its conditions.
-/
import Derived.Test.YtflimjgjgligeaaGreatSB6
import Derived.Test.YtflimjgjgligeaaGreatSC3
import Derived.Test.YtflimjgjgligeaaGreatSP5
import Derived.Test.YtflimjgjgligeaaGreatSC4

set_option linter.unusedSimpArgs false
set_option linter.unusedVariables false
set_option maxRecDepth 100000
set_option maxHeartbeats 16000000
set_option linter.defProp false
namespace Go.Rx
open Go
attribute [local irreducible] Req Way WayG Sel Z2 ZQ Zaz cVC Zai ZaO
@[go_sem] def hr320:ZW:=hh [[0],[1,2],[1,2,4],[1,2,4],[1,2,4],[1,2,4,5],[1,2,4,5],[1,2,4,5],[1,2,4,5,6],[1,2,4,5,6,7],[1,2,4,5,6,7],[1,2,4,5,6,7],[1,2,4,5,6,7,8],[1,2,4,5,6,7,8],[1,2,4,5,6],[1,2,4,5,6],[1,2,4],[1,2,4,9],[1,2,4,9,10],[1,2,4,9,10],[1,2,4,9,10],[1,2,4,9,10],[2,4,9],[2,4,9],[2,4,9],[2,4],[2,4,12],[2],[2,4]]
@[go_sem] def hl320:ZW:=hh [[],[],[],[],[],[1,2,4,5],[],[],[],[1,2,4,5,6,7],[],[],[],[],[],[],[],[],[1,2,4,9,10]]
attribute [go_sem] Go.Proofs.Tryz.results320
theorem ZpM (t : GTxn) (h1 : Za8 t.Za) (h2 : smallW t.ZK) (h3 : t.ZK.Zg.length + t.ZK.ZH.length ≤ 1000) (h4 : (ZaM t).length ≤ 1000) : ZQ Go.Proofs.Tryz.prog 320 [.d (.agg t.cells)] [] [.dead] (Zbf t) [] := by
  refine cofF Go.Proofs.Tryz.func320 hr320 hl320 ?_;have ht := ZgE h1.1.1;have d0 : decide (t.Za.ZF < 100001) = true := decide_eq_true (by have := h1.1.1.2; omega);have e0 : IntKind.i64.wrap (t.Za.ZF + 1) = t.Za.ZF + 1 := by have := h1.1.1; exact Zad (by omega) (by omega)
  simp -implicitDefEqProofs only [go_sem, GTxn.cells];simp -implicitDefEqProofs only [go_sem, d0, e0];repeat ((first | refine rq ?_ | refine wl ?_ | refine gl ?_ | fail); simp -implicitDefEqProofs only [go_sem, d0, e0])
  refine ZY (α := Nat) (fun i => ⟨[(1, .ref 0 0), (2, .ref 1 0), (4, .ref 3 0), (5, .d (.int .i64 i))], [(0, some (.box [.d (.int .i64 t.Za.ZF), .d (.int .i64 t.Za.Zy), .d (.int .i64 t.Za.Zs), .d (.sl (Z9 t.Za.Ze)), .d (.sl (strs t.ZK.Zc.Zv)), .d (.sl (Zae t.ZK.Zc.Zm)), .d (.int .i64 t.ZK.Zs), .d (.sl (ints t.ZK.ZH)), .d (.sl (ints t.ZK.Zg)), .d (.sl (ints t.ZK.Zf)), .d (.int .i64 t.Zy)])), (1, some (.box [.d (.int .i64 0), .d (.int .i64 0), .d (.int .i64 0), .own 2 0 0])), (2, some (.arr 2 [])), (3, some (.box [.d (.int .i64 (t.Za.ZF + 1)), .d (.int .i64 t.Zy), .d (.int .i64 t.ZK.Zs), .own 4 0 (ZaB t.ZK.Zf (t.Za.Ze.take i)).length])), (4, some (.arr 2 (Z9 (ZaB t.ZK.Zf (t.Za.Ze.take i)))))]⟩)
    (fun i => i ≤ t.Za.Ze.length) (fun i => t.Za.Ze.length - i) 0 rfl (Nat.zero_le _) ?_
  rintro i i1;have hfl := h1.1.2.2.2;have hkl := Zw3 (fresh := t.ZK.Zf) (l := t.Za.Ze.take i);simp only [List.length_take] at hkl;simp -implicitDefEqProofs only [go_sem];refine fork (fun h5 => ?_) (fun h5 => ?_)
  · obtain ⟨f, hf⟩ := Z3 h5
    have hpl := (h1.2.1 f (List.mem_of_getElem? hf)).2.1.2;have hst := ZuX (fresh := t.ZK.Zf) hf;have hi1 : IntKind.i64.wrap ((i : Int) + 1) = ((i + 1 : Nat) : Int) := ZV (by simp only [LEN]; omega);simp -implicitDefEqProofs only [go_sem, Z4 hf];repeat ((first | refine rq ?_ | refine wl ?_ | refine gl ?_ | fail); simp -implicitDefEqProofs only [go_sem, Z4 hf])
    refine ZY (α := Nat) (fun k => ⟨[(1, .ref 0 0), (2, .ref 1 0), (4, .ref 3 0), (5, .d (.int .i64 i)), (6, .ref 5 0), (7, .d (.int .i64 k))], [(0, some (.box [.d (.int .i64 t.Za.ZF), .d (.int .i64 t.Za.Zy), .d (.int .i64 t.Za.Zs), .d (.sl (Z9 t.Za.Ze)), .d (.sl (strs t.ZK.Zc.Zv)), .d (.sl (Zae t.ZK.Zc.Zm)), .d (.int .i64 t.ZK.Zs), .d (.sl (ints t.ZK.ZH)), .d (.sl (ints t.ZK.Zg)), .d (.sl (ints t.ZK.Zf)), .d (.int .i64 t.Zy)])), (1, some (.box [.d (.int .i64 0), .d (.int .i64 0), .d (.int .i64 0), .own 2 0 0])), (2, some (.arr 2 [])), (3, some (.box [.d (.int .i64 (t.Za.ZF + 1)), .d (.int .i64 t.Zy), .d (.int .i64 t.ZK.Zs), .own 4 0 (ZaB t.ZK.Zf (t.Za.Ze.take i)).length])), (4, some (.arr 2 (Z9 (ZaB t.ZK.Zf (t.Za.Ze.take i))))), (5, some (.box [.d (.int .i64 f.ZF), .own 6 0 (ZiJ t.ZK.Zf (f.Zv.take k)).length])), (6, some (.arr 1 (ints (ZiJ t.ZK.Zf (f.Zv.take k)))))]⟩)
      (fun k => k ≤ f.Zv.length) (fun k => f.Zv.length - k) 0 rfl (Nat.zero_le _) ?_
    rintro k k1;have hnl := Zut (fresh := t.ZK.Zf) (l := f.Zv.take k);simp only [List.length_take] at hnl;have hk1 : IntKind.i64.wrap ((k : Int) + 1) = ((k + 1 : Nat) : Int) := ZV (by simp only [LEN]; omega);simp -implicitDefEqProofs only [go_sem, Z4 hf];repeat ((first | refine rq ?_ | fail); simp -implicitDefEqProofs only [go_sem, Z4 hf])
    refine fork (fun h8 => ?_) (fun h8 => ?_)
    · obtain ⟨x, hx⟩ := Z3 h8
      have hns := ZrT (fresh := t.ZK.Zf) hx;by_cases hm : x ∈ t.ZK.Zf
      · have dm := decide_eq_true hm
        rw [if_pos hm, List.append_nil] at hns;simp -implicitDefEqProofs only [go_sem, Z4 hf, ZO hx, dm];repeat ((first | refine rq ?_ | refine wl ?_ | refine gl ?_ | refine Znx t.ZK.Zf x (by have := h2.2.2.2; have := h2.1.2; simp only [LEN]; omega) rfl ?_ | fail); simp -implicitDefEqProofs only [go_sem, Z4 hf, ZO hx, dm])
        rw [hk1, ← hns];exact ZP (k + 1) rfl (by omega) (by omega)
      · have dm := decide_eq_false hm
        rw [if_neg hm] at hns;simp -implicitDefEqProofs only [go_sem, Z4 hf, ZO hx, dm];repeat ((first | refine rq ?_ | refine wl ?_ | refine gl ?_ | refine Znx t.ZK.Zf x (by have := h2.2.2.2; have := h2.1.2; simp only [LEN]; omega) rfl ?_ | fail); simp -implicitDefEqProofs only [go_sem, Z4 hf, ZO hx, dm])
        rw [hk1];refine ZP (k + 1) ?_ (by omega) (by omega);simp [hns, ints]
    · have hk : k = f.Zv.length := by omega
      subst hk;rw [List.take_length] at hnl ⊢;by_cases hpos : 0 < (ZiJ t.ZK.Zf f.Zv).length
      · have dp : decide ((0 : Int) < ((ZiJ t.ZK.Zf f.Zv).length : Int)) = true := decide_eq_true (by omega)
        rw [if_pos hpos] at hst;simp -implicitDefEqProofs only [go_sem, dp, Zau.cells, Zby];repeat ((first | refine rq ?_ | refine wl ?_ | refine gl ?_ | fail); simp -implicitDefEqProofs only [go_sem, dp, Zau.cells, Zby])
        rw [hi1];refine ZP (i + 1) ?_ (by omega) (by omega);simp [hst, Z9, Zau.cells]
      · have dp : decide ((0 : Int) < ((ZiJ t.ZK.Zf f.Zv).length : Int)) = false := decide_eq_false (by omega)
        rw [if_neg hpos, List.append_nil] at hst;simp -implicitDefEqProofs only [go_sem, dp];repeat ((first | refine rq ?_ | refine wl ?_ | refine gl ?_ | fail); simp -implicitDefEqProofs only [go_sem, dp])
        rw [hi1, ← hst];exact ZP (i + 1) rfl (by omega) (by omega)
  · have hi : i = t.Za.Ze.length := by omega
    subst hi;rw [List.take_length] at hkl ⊢;simp -implicitDefEqProofs only [go_sem];repeat ((first | refine rq ?_ | refine wl ?_ | refine gl ?_ | fail); simp -implicitDefEqProofs only [go_sem])
    refine ZY (α := Nat) (fun i => ⟨[(1, .ref 0 0), (2, .ref 1 0), (4, .ref 3 0), (9, .ref 5 0), (10, .d (.int .i64 i))], [(0, some (.box [.d (.int .i64 t.Za.ZF), .d (.int .i64 t.Za.Zy), .d (.int .i64 t.Za.Zs), .d (.sl (Z9 t.Za.Ze)), .d (.sl (strs t.ZK.Zc.Zv)), .d (.sl (Zae t.ZK.Zc.Zm)), .d (.int .i64 t.ZK.Zs), .d (.sl (ints t.ZK.ZH)), .d (.sl (ints t.ZK.Zg)), .d (.sl (ints t.ZK.Zf)), .d (.int .i64 t.Zy)])), (1, some (.box [.d (.int .i64 0), .d (.int .i64 0), .d (.int .i64 0), .own 2 0 0])), (2, some (.arr 2 [])), (3, some (.box [.d (.int .i64 (t.Za.ZF + 1)), .d (.int .i64 t.Zy), .d (.int .i64 t.ZK.Zs), .own 4 0 (ZaB t.ZK.Zf t.Za.Ze).length])), (4, some (.arr 2 (Z9 (ZaB t.ZK.Zf t.Za.Ze)))), (5, some (.box [.d (.int .i64 (t.Za.ZF + 1)), .own 6 0 (Zgb t i).length])), (6, some (.arr 1 (ints (Zgb t i))))]⟩)
      (fun i => i ≤ t.ZK.ZH.length) (fun i => t.ZK.ZH.length - i) 0 (by simp [Zgb]) (Nat.zero_le _) ?_
    rintro i i1;have hnl := Znh (t := t) (i := i);have hi1 : IntKind.i64.wrap ((i : Int) + 1) = ((i + 1 : Nat) : Int) := ZV (by simp only [LEN]; omega);simp -implicitDefEqProofs only [go_sem];refine fork (fun h8 => ?_) (fun h8 => ?_)
    · obtain ⟨x, hx⟩ := Z3 h8
      have hns := ZrW hx;by_cases hm : t.Za.Zs ≤ x
      · have dm := decide_eq_true hm
        rw [if_pos hm] at hns;simp -implicitDefEqProofs only [go_sem, ZO hx, dm];repeat ((first | refine rq ?_ | refine wl ?_ | refine gl ?_ | fail); simp -implicitDefEqProofs only [go_sem, ZO hx, dm])
        rw [hi1];refine ZP (i + 1) ?_ (by omega) (by omega);simp [hns, ints]
      · have dm := decide_eq_false hm
        rw [if_neg hm, List.append_nil] at hns;simp -implicitDefEqProofs only [go_sem, ZO hx, dm];repeat ((first | refine rq ?_ | refine wl ?_ | refine gl ?_ | fail); simp -implicitDefEqProofs only [go_sem, ZO hx, dm])
        rw [hi1, ← hns];exact ZP (i + 1) rfl (by omega) (by omega)
    · have hi : i = t.ZK.ZH.length := by omega
      subst hi;have hall := Zni (t := t);have hss : (ints (ZaM t)).take (Zgb t t.ZK.ZH.length).length = ints (ZaM t) := by rw [← hall]; exact List.take_of_length_le (by simp [ints, Zbw])
      have hpl : (ZaM t).length = (Zgb t t.ZK.ZH.length).length := by rw [← hall, Zbw]
      simp -implicitDefEqProofs only [go_sem];repeat ((first | refine rq ?_ | refine wl ?_ | refine gl ?_ | refine Zhi (Zgb t t.ZK.ZH.length) (by omega) (by simp -implicitDefEqProofs only [go_sem, Zby]; first | done | rfl) ?_ | fail); simp -implicitDefEqProofs only [go_sem])
      rw [hall];unfold Zbf Zdb;by_cases hpos : 0 < (ZaM t).length
      · have dp : decide ((0 : Int) < ((Zgb t t.ZK.ZH.length).length : Int)) = true := decide_eq_true (by omega)
        have hM : Zbg t = ⟨t.Za.ZF + 1, t.Zy, t.ZK.Zs, ZaB t.ZK.Zf t.Za.Ze ++ [⟨t.Za.ZF + 1, ZaM t⟩]⟩ := by rw [Zbg, ht, if_pos hpos]
        have hsm : ZaD ⟨t.Za.ZF + 1, t.Zy, t.ZK.Zs, (ZaB t.ZK.Zf t.Za.Ze ++ [⟨t.Za.ZF + 1, ZaM t⟩])⟩ := by
          refine ⟨by simp only [List.length_append, List.length_cons, List.length_nil]; omega, fun f hf => ?_⟩;have hk := Zlo (fresh := t.ZK.Zf) (n := 1000) fun f hf => (by have := (h1.2.1 f hf).2.1.2; omega : f.Zv.length ≤ 1000)
          have : f.Zv.length ≤ 1000 := by
            simp only [List.mem_append, List.mem_singleton] at hf;first
              | exact hk f hf
              | (rcases hf with hf | rfl
                 · exact hk f hf
                 · exact h4)
          show f.Zv.length ≤ 1048576;omega
        rw [hM];simp -implicitDefEqProofs only [go_sem, dp, Zau.cells, hss];repeat ((first | refine rq ?_ | refine wl ?_ | refine gl ?_ | refine ZbO ⟨t.Za.ZF + 1, t.Zy, t.ZK.Zs, (ZaB t.ZK.Zf t.Za.Ze ++ [⟨t.Za.ZF + 1, ZaM t⟩])⟩ hsm (ls := [3]) (by simp -implicitDefEqProofs only [go_sem, ZX.cells]; first | done | rfl) ?_ | fail); simp -implicitDefEqProofs only [go_sem, dp, Zau.cells, hss])
        rw [Zbo];cases hmt : Zav ⟨t.Za.ZF + 1, t.Zy, t.ZK.Zs, (ZaB t.ZK.Zf t.Za.Ze ++ [⟨t.Za.ZF + 1, ZaM t⟩])⟩ with
        | none =>
          simp only [Option.isSome_none, Option.getD_none, Option.map_none];simp -implicitDefEqProofs only [go_sem];repeat ((first | refine rq ?_ | refine wl ?_ | refine gl ?_ | fail); simp -implicitDefEqProofs only [go_sem])
          try rfl
        | some u =>
          simp only [Option.isSome_some, Option.getD_some, Option.map_some];simp -implicitDefEqProofs only [go_sem, ZX.cells];repeat ((first | refine rq ?_ | refine wl ?_ | refine gl ?_ | fail); simp -implicitDefEqProofs only [go_sem, ZX.cells])
          try rfl
      · have dp : decide ((0 : Int) < ((Zgb t t.ZK.ZH.length).length : Int)) = false := decide_eq_false (by omega)
        have hM : Zbg t = ⟨t.Za.ZF + 1, t.Zy, t.ZK.Zs, ZaB t.ZK.Zf t.Za.Ze⟩ := by rw [Zbg, ht, if_neg hpos, List.append_nil]
        have hsm : ZaD ⟨t.Za.ZF + 1, t.Zy, t.ZK.Zs, (ZaB t.ZK.Zf t.Za.Ze)⟩ := by
          refine ⟨by simp only [List.length_append, List.length_cons, List.length_nil]; omega, fun f hf => ?_⟩;have hk := Zlo (fresh := t.ZK.Zf) (n := 1000) fun f hf => (by have := (h1.2.1 f hf).2.1.2; omega : f.Zv.length ≤ 1000)
          have : f.Zv.length ≤ 1000 := by
            simp only [List.mem_append, List.mem_singleton] at hf;first
              | exact hk f hf
              | (rcases hf with hf | rfl
                 · exact hk f hf
                 · exact h4)
          show f.Zv.length ≤ 1048576;omega
        rw [hM];simp -implicitDefEqProofs only [go_sem, dp, Zau.cells, hss];repeat ((first | refine rq ?_ | refine wl ?_ | refine gl ?_ | refine ZbO ⟨t.Za.ZF + 1, t.Zy, t.ZK.Zs, (ZaB t.ZK.Zf t.Za.Ze)⟩ hsm (ls := [3]) (by simp -implicitDefEqProofs only [go_sem, ZX.cells]; first | done | rfl) ?_ | fail); simp -implicitDefEqProofs only [go_sem, dp, Zau.cells, hss])
        rw [Zbo];cases hmt : Zav ⟨t.Za.ZF + 1, t.Zy, t.ZK.Zs, (ZaB t.ZK.Zf t.Za.Ze)⟩ with
        | none =>
          simp only [Option.isSome_none, Option.getD_none, Option.map_none];simp -implicitDefEqProofs only [go_sem];repeat ((first | refine rq ?_ | refine wl ?_ | refine gl ?_ | fail); simp -implicitDefEqProofs only [go_sem])
          try rfl
        | some u =>
          simp only [Option.isSome_some, Option.getD_some, Option.map_some];simp -implicitDefEqProofs only [go_sem, ZX.cells];repeat ((first | refine rq ?_ | refine wl ?_ | refine gl ?_ | fail); simp -implicitDefEqProofs only [go_sem, ZX.cells])
          try rfl
def ZgJ (t:GTxn) (h1:Za8 t.Za) (h2:smallW t.ZK) (h3:t.ZK.Zg.length+t.ZK.ZH.length≤1000) (h4:(ZaM t).length≤1000):=kf (ZpM t h1 h2 h3 h4)
theorem Zgt {d:ZT} (h:Zck d):Zck (Za6 d):=⟨by rw [Zbb];exact h.1,by simp [Za6]⟩
@[go_sem] def hr312:ZW:=hh [[0],[1,2,3],[1,2,3],[1,2,3],[1,2,3,5,6],[1,2,3],[1,2,3,5],[1,2,3,5,7],[1,2,3,5,9,10],[1,2,3],[2,3,5,9]]
@[go_sem] def hl312:ZW:=hh []
attribute [go_sem] Go.Proofs.Tryz.results312
theorem ZvI (t:GTxn) (h1:Za8 t.Za) (h2:smallW t.ZK) (h3:t.ZK.Zg.length+t.ZK.ZH.length≤1000) (h4:(ZaM t).length≤1000):ZQ Go.Proofs.Tryz.prog 312 [.d (.agg t.cells)] [] [.dead] (Zh4 t) []:=by
 refine cofF Go.Proofs.Tryz.func312 hr312 hl312 ?_;unfold Zh4 Zev;simp -implicitDefEqProofs only [go_sem,GTxn.cells];refine ZdM t (by simp -implicitDefEqProofs only [go_sem,GTxn.cells_eq];first|done|rfl) ?_;by_cases hs:Zgx t
 ·have ds:=decide_eq_true hs;rw [if_pos hs];simp -implicitDefEqProofs only [go_sem,ds,ZT.cells,ZX.cells];repeat ((first|refine rq ?_|refine wl ?_|refine gl ?_|refine Zc4 t.ZK.Zc h2.1 (by simp -implicitDefEqProofs only [go_sem,ZT.cells_eq];first|done|rfl) ?_|refine ZbY t.Za (ZaK h1) (by simp -implicitDefEqProofs only [go_sem,ZX.cells_eq];first|done|rfl) ?_|fail);simp -implicitDefEqProofs only [go_sem,ds,ZT.cells,ZX.cells])
  try rfl
 ·have ds:=decide_eq_false hs;rw [if_neg hs];cases hm:Zav (Zbg t) with
  |none=>
   have hn:Zbf t= .tup [.d (.agg [.int .i64 0,.int .i64 0,.int .i64 0,.sl []]),.d (.bool false)]:=by rw [Zbf,Zdb,hm];rfl
   simp -implicitDefEqProofs only [go_sem,ds,hn,ZT.cells,ZX.cells];repeat ((first|refine rq ?_|refine wl ?_|refine gl ?_|refine ZgJ t h1 h2 h3 h4 (by simp -implicitDefEqProofs only [go_sem,GTxn.cells_eq];first|done|rfl) ?_|refine Zd3 (xs:=[.agg t.ZK.Zc.cells]) (Zd9 t.ZK.Zc h2.1) (by simp -implicitDefEqProofs only [go_sem,ZT.cells_eq];first|done|rfl) rfl ?_|refine ZbY t.Za (ZaK h1) (by simp -implicitDefEqProofs only [go_sem,ZX.cells_eq];first|done|rfl) ?_|fail);simp -implicitDefEqProofs only [go_sem,ds,hn,ZT.cells,ZX.cells])
   try rfl
  |some text=>
   have hn:Zbf t= .tup [.d (.agg [.int .i64 (Zbg t).ZF,.int .i64 (Zbg t).Zy,.int .i64 (Zbg t).Zs,.sl (Z9 (Zbg t).Ze)]),.d (.bool true)]:=by rw [Zbf,Zdb,hm];rfl
   obtain ⟨m1,m2,m3⟩:=ZdC hm;have htx:(Zbg t).ZF=ZaW t:=rfl;have hmt:Zbo (Zbg t)= .tup [.d (.str text),.d (.bool true)]:=by rw [Zbo,hm];rfl
   have htx0:0≤ZaW t:=by have:=ZgE h1.1.1;have:=h1.1.1;omega
   simp -implicitDefEqProofs only [go_sem,ds,hn,hmt,ZT.cells,htx];repeat ((first|refine rq ?_|refine wl ?_|refine gl ?_|refine ZgJ t h1 h2 h3 h4 (by simp -implicitDefEqProofs only [go_sem,GTxn.cells_eq];first|done|rfl) ?_|refine ZbO (Zbg t) (ZaK m1) (by simp -implicitDefEqProofs only [go_sem,ZX.cells_eq,htx];first|done|rfl) ?_|refine Zc4 t.ZK.Zc h2.1 (by simp -implicitDefEqProofs only [go_sem,ZT.cells_eq];first|done|rfl) ?_|refine ZjT (ZaW t) htx0 (by simp -implicitDefEqProofs only [go_sem];first|done|rfl) ?_|fail);simp -implicitDefEqProofs only [go_sem,ds,hn,hmt,ZT.cells,htx])
   cases hw:Zak (Za6 t.ZK.Zc) (ZaW t%2) text with
   |none=>
    simp only [Option.map_none];refine Zd3 (xs:=[.agg (Za6 t.ZK.Zc).cells,.int .i64 (ZaW t%2),.str text]) (ZdG (Za6 t.ZK.Zc) (ZaW t%2) text (Zgt h2.1)) (by simp -implicitDefEqProofs only [go_sem,ZT.cells_eq];first|done|rfl) rfl ?_;rw [hw];simp only [Option.isSome_none];simp -implicitDefEqProofs only [go_sem,ZT.cells,ZX.cells];repeat ((first|refine rq ?_|refine wl ?_|refine gl ?_|refine Zd3 (xs:=[.agg t.ZK.Zc.cells]) (Zd9 t.ZK.Zc h2.1) (by simp -implicitDefEqProofs only [go_sem,ZT.cells_eq];first|done|rfl) rfl ?_|refine ZbY t.Za (ZaK h1) (by simp -implicitDefEqProofs only [go_sem,ZX.cells_eq];first|done|rfl) ?_|fail);simp -implicitDefEqProofs only [go_sem,ZT.cells,ZX.cells])
    try rfl
   |some d=>
    have hd:=Zcv hw;simp only [Option.map_some];refine Zd3 (xs:=[.agg (Za6 t.ZK.Zc).cells,.int .i64 (ZaW t%2),.str text]) (ZdG (Za6 t.ZK.Zc) (ZaW t%2) text (Zgt h2.1)) (by simp -implicitDefEqProofs only [go_sem,ZT.cells_eq];first|done|rfl) rfl ?_;rw [ZlR hw,hw];simp only [Option.isSome_some];simp -implicitDefEqProofs only [go_sem,ZT.cells,ZX.cells,htx];repeat ((first|refine rq ?_|refine wl ?_|refine gl ?_|refine Zc4 d (Zb4 hd.1) (by simp -implicitDefEqProofs only [go_sem,ZT.cells_eq];first|done|rfl) ?_|fail);simp -implicitDefEqProofs only [go_sem,ZT.cells,ZX.cells,htx])
    try rfl
def Zhk (t:GTxn) (h1:Za8 t.Za) (h2:smallW t.ZK) (h3:t.ZK.Zg.length+t.ZK.ZH.length≤1000) (h4:(ZaM t).length≤1000):=kf (ZvI t h1 h2 h3 h4)
@[go_sem] def hr315:ZW:=hh [[0,1,2,3],[1,2,3,4,8],[1,2,3,4,8,9,10],[2,3,4,8],[2,3,4,8,9],[2,3,4,8,9,11],[2,3,8,13]]
@[go_sem] def hl315:ZW:=hh []
attribute [go_sem] Go.Proofs.Tryz.results315
theorem Zoe (t:GTxn) (stage:Int) (left:List Bool) (torn:Int) (h1:Za8 t.Za) (h2:smallW t.ZK) (h3:t.ZK.Zg.length+t.ZK.ZH.length≤1000) (h4:(ZaM t).length≤1000) (hd:Za5 t.ZK.Zc) (hl:left.length≤1048576):ZQ Go.Proofs.Tryz.prog 315 [.d (.agg t.cells),.d (.int .i64 stage),.d (.sl (bls left)),.d (.int .i64 torn)] [] [.dead,.dead,.dead,.dead] (.d (.agg (cutD t stage left torn).cells)) []:=by
 refine cofF Go.Proofs.Tryz.func315 hr315 hl315 ?_;unfold cutD;simp -implicitDefEqProofs only [go_sem,GTxn.cells];refine ZgJ t h1 h2 h3 h4 (by simp -implicitDefEqProofs only [go_sem,GTxn.cells_eq];first|done|rfl) ?_;by_cases hs:Zgx t∨Zav (Zbg t)=none∨stage=0
 ·rw [if_pos hs];by_cases hs1:Zgx t
  ·have ds:=decide_eq_true hs1;cases hm:Zav (Zbg t) with
   |none=>
    have hn:Zbf t= .tup [.d (.agg [.int .i64 0,.int .i64 0,.int .i64 0,.sl []]),.d (.bool false)]:=by rw [Zbf,Zdb,hm];rfl
    rw [hn];simp -implicitDefEqProofs only [go_sem,ds,ZT.cells];repeat ((first|refine rq ?_|refine wl ?_|refine gl ?_|refine ZdM t (by simp -implicitDefEqProofs only [go_sem,GTxn.cells_eq];first|done|rfl) ?_|refine Zct t.ZK.Zc hd left hl torn (by simp -implicitDefEqProofs only [go_sem,ZT.cells_eq];first|done|rfl) ?_|fail);simp -implicitDefEqProofs only [go_sem,ds,ZT.cells])
    try rfl
   |some text=>
    have hn:Zbf t= .tup [.d (.agg [.int .i64 (Zbg t).ZF,.int .i64 (Zbg t).Zy,.int .i64 (Zbg t).Zs,.sl (Z9 (Zbg t).Ze)]),.d (.bool true)]:=by rw [Zbf,Zdb,hm];rfl
    rw [hn];simp -implicitDefEqProofs only [go_sem,ds,ZT.cells];repeat ((first|refine rq ?_|refine wl ?_|refine gl ?_|refine ZdM t (by simp -implicitDefEqProofs only [go_sem,GTxn.cells_eq];first|done|rfl) ?_|refine Zct t.ZK.Zc hd left hl torn (by simp -implicitDefEqProofs only [go_sem,ZT.cells_eq];first|done|rfl) ?_|fail);simp -implicitDefEqProofs only [go_sem,ds,ZT.cells])
    try rfl
  ·have ds:=decide_eq_false hs1;cases hm:Zav (Zbg t) with
   |none=>
    have hn:Zbf t= .tup [.d (.agg [.int .i64 0,.int .i64 0,.int .i64 0,.sl []]),.d (.bool false)]:=by rw [Zbf,Zdb,hm];rfl
    rw [hn];simp -implicitDefEqProofs only [go_sem,ds,ZT.cells];repeat ((first|refine rq ?_|refine wl ?_|refine gl ?_|refine ZdM t (by simp -implicitDefEqProofs only [go_sem,GTxn.cells_eq];first|done|rfl) ?_|refine Zct t.ZK.Zc hd left hl torn (by simp -implicitDefEqProofs only [go_sem,ZT.cells_eq];first|done|rfl) ?_|fail);simp -implicitDefEqProofs only [go_sem,ds,ZT.cells])
    try rfl
   |some text=>
    have d0:decide (stage=0)=true:=decide_eq_true ((hs.resolve_left hs1).resolve_left (by rw [hm];simp));have hn:Zbf t= .tup [.d (.agg [.int .i64 (Zbg t).ZF,.int .i64 (Zbg t).Zy,.int .i64 (Zbg t).Zs,.sl (Z9 (Zbg t).Ze)]),.d (.bool true)]:=by rw [Zbf,Zdb,hm];rfl
    rw [hn];simp -implicitDefEqProofs only [go_sem,ds,d0,ZT.cells];repeat ((first|refine rq ?_|refine wl ?_|refine gl ?_|refine ZdM t (by simp -implicitDefEqProofs only [go_sem,GTxn.cells_eq];first|done|rfl) ?_|refine Zct t.ZK.Zc hd left hl torn (by simp -implicitDefEqProofs only [go_sem,ZT.cells_eq];first|done|rfl) ?_|fail);simp -implicitDefEqProofs only [go_sem,ds,d0,ZT.cells])
    try rfl
 ·rw [if_neg hs];have ds:decide (Zgx t)=false:=decide_eq_false fun h=>hs (.inl h)
  have d0:decide (stage=0)=false:=decide_eq_false fun h=>hs (.inr (.inr h))
  obtain ⟨text,hm⟩:=Option.ne_none_iff_exists'.1 fun h=>hs (.inr (.inl h))
  have hn:Zbf t= .tup [.d (.agg [.int .i64 (Zbg t).ZF,.int .i64 (Zbg t).Zy,.int .i64 (Zbg t).Zs,.sl (Z9 (Zbg t).Ze)]),.d (.bool true)]:=by rw [Zbf,Zdb,hm];rfl
  obtain ⟨m1,m2,m3⟩:=ZdC hm;have htx:(Zbg t).ZF=ZaW t:=rfl;have hmt:Zbo (Zbg t)= .tup [.d (.str text),.d (.bool true)]:=by rw [Zbo,hm];rfl
  have htx0:0≤ZaW t:=by have:=ZgE h1.1.1;have:=h1.1.1;omega
  rw [hn,hm,Option.getD_some];simp -implicitDefEqProofs only [go_sem,ds,d0,hmt,ZT.cells,htx];repeat ((first|refine rq ?_|refine wl ?_|refine gl ?_|refine ZdM t (by simp -implicitDefEqProofs only [go_sem,GTxn.cells_eq];first|done|rfl) ?_|refine ZbO (Zbg t) (ZaK m1) (by simp -implicitDefEqProofs only [go_sem,ZX.cells_eq,htx];first|done|rfl) ?_|refine Zc4 t.ZK.Zc h2.1 (by simp -implicitDefEqProofs only [go_sem,ZT.cells_eq];first|done|rfl) ?_|refine ZjT (ZaW t) htx0 (by simp -implicitDefEqProofs only [go_sem];first|done|rfl) ?_|fail);simp -implicitDefEqProofs only [go_sem,ds,d0,hmt,ZT.cells,htx])
  refine Zd3 (xs:=[.agg (Za6 t.ZK.Zc).cells,.int .i64 (ZaW t%2),.str text]) (ZdG (Za6 t.ZK.Zc) (ZaW t%2) text (Zgt h2.1)) (by simp -implicitDefEqProofs only [go_sem,ZT.cells_eq];first|done|rfl) rfl ?_;cases hw:Zak (Za6 t.ZK.Zc) (ZaW t%2) text with
  |none=>
   rw [wrF,hw];simp only [Option.isSome_none,Option.getD_none];simp -implicitDefEqProofs only [go_sem,ZT.cells];repeat ((first|refine rq ?_|refine wl ?_|refine gl ?_|refine Zct (Za6 t.ZK.Zc) (Zg0 hd) left hl torn (by simp -implicitDefEqProofs only [go_sem,ZT.cells_eq];first|done|rfl) ?_|fail);simp -implicitDefEqProofs only [go_sem,ZT.cells])
   try rfl
  |some d=>
   rw [ZlR hw];simp only [Option.isSome_some];simp -implicitDefEqProofs only [go_sem,ZT.cells];repeat ((first|refine rq ?_|refine wl ?_|refine gl ?_|refine Zct d (Zcv hw).1 left hl torn (by simp -implicitDefEqProofs only [go_sem,ZT.cells_eq];first|done|rfl) ?_|fail);simp -implicitDefEqProofs only [go_sem,ZT.cells])
   try rfl
def Zny (t:GTxn) (stage:Int) (left:List Bool) (torn:Int) (h1:Za8 t.Za) (h2:smallW t.ZK) (h3:t.ZK.Zg.length+t.ZK.ZH.length≤1000) (h4:(ZaM t).length≤1000) (hd:Za5 t.ZK.Zc) (hl:left.length≤1048576):=kf (Zoe t stage left torn h1 h2 h3 h4 hd hl)
end Go.Rx
