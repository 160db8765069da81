/-
  Contracts of functions of the program, each for all data of the shape that it names.
-/
import Derived.Test.YtedopmfciabdcaaRxP3
namespace Go.Rx
open Go

/-! events -/
@[go_sem] def tysE : Tys
  | 3 => some ⟨1, 8, .int .i64, [.d (.int .i64 0)]⟩
  | 4 => some ⟨1, 1, .bool, [.d (.bool false)]⟩
  | 9 => some ⟨1, 16, .str, [.d (.str [])]⟩
  | 30 => some ⟨1, 24, .slice 4, [.nils 1]⟩
  | 32 => some ⟨7, 88, .struct [(0, 3), (1, 3), (2, 9), (3, 9), (4, 3), (5, 30), (6, 3)], [.d (.int .i64 0), .d (.int .i64 0), .d (.str []), .d (.str []), .d (.int .i64 0), .nils 1, .d (.int .i64 0)]⟩
  | 35 => some ⟨7, 88, .struct [(0, 3), (1, 3), (2, 9), (3, 9), (4, 3), (5, 30), (6, 3)], [.d (.int .i64 0), .d (.int .i64 0), .d (.str []), .d (.str []), .d (.int .i64 0), .nils 1, .d (.int .i64 0)]⟩
  | _ => none
theorem tysEOK : TyOK Go.Proofs.Try.prog tysE := by
  refine tyOK_of fun t i h => ?_
  unfold tysE at h
  split at h <;> first | (cases h; kernel_rfl) | cases h

def bls (l : List Bool) : List (List D) := l.map fun b => [.bool b]
theorem bls_length {l : List Bool} : (bls l).length = l.length := by simp [bls]
theorem lget_bls {l : List Bool} {i : Nat} {p : Bool} (h : l[i]? = some p) : lget (bls l) i = [.bool p] := by
  simp [lget, bls, List.getD, h]
theorem bls_whole {l : List Bool} {n : Nat} (h : n = l.length) : ((bls l).drop 0).take n = bls l := by subst h; rw [List.drop_zero, ← bls_length, List.take_length]
theorem flat_bls {l : List Bool} : FlatO (.arr 1 (bls l)) := by
  intro e he d hd
  simp only [bls, List.mem_map] at he
  obtain ⟨p, _, rfl⟩ := he
  simp only [List.mem_cons, List.not_mem_nil, or_false] at hd
  subst hd; exact .bool _
theorem bls_set {m : List Bool} {i : Nat} {p : Bool} : (bls m).set i [.bool p] = bls (m.set i p) := by
  simp [bls, List.map_set]
theorem bls_zero {n : Nat} : List.replicate n [D.bool false] = bls (List.replicate n false) := by
  simp [bls]

structure Ev where
  kind : Int
  id : Int
  key : List UInt8
  val : List UInt8
  stage : Int
  left : List Bool
  torn : Int

/-! f35 szBoolS -/
@[go_sem] def hr35 : Hints
  | 0 => [0, 1] | 1 => [0, 1] | 2 => [1] | 3 => [] | 4 => [1] | _ => []
@[go_sem] def hl35 : Hints := fun _ => []
attribute [go_sem] Go.Proofs.Try.results35
def szBoolS (l : List Bool) (left : Int) : Int := if sub64 left l.length < 0 then -1 else sub64 left l.length
theorem c35 (l : List Bool) (left : Int) : CallOK Go.Proofs.Try.prog 35 [.d (.sl (bls l)), .d (.int .i64 left)] [] [.dead, .dead] (.d (.int .i64 (szBoolS l left))) [] := by
  refine call_of tysEOK mixed Go.Proofs.Try.func35 (by kernel_rfl) rfl (np := [false, false]) (by kernel_rfl) hr35 hl35 (by simp [Go.Proofs.Try.ntmps35]) ?_
  simp -implicitDefEqProofs only [go_sem, reduceCtorEq, bls_length]
  refine way_dec (fun h1 => ?_) (fun h1 => ?_)
  · simp -implicitDefEqProofs only [go_sem, reduceCtorEq]
    simp [szBoolS, sub64, h1]
  · simp -implicitDefEqProofs only [go_sem, reduceCtorEq]
    simp [szBoolS, sub64, h1]
theorem k35 {h : Heap} {tb : Nat} {K : OK} {args : List V} {ls : List Nat} (l : List Bool) (left : Int) (hg : toDs h args = some ([.sl (bls l), .int .i64 left], ls))
    (hk : K (.d (.int .i64 (szBoolS l left))) []) : callVC Go.Proofs.Try.prog h tb 35 args K :=
  call_free hg (c35 l left) rfl (.inr ⟨.d (.int _ _), flatH_nil⟩) hk

/-! f16 szEvent -/
@[go_sem] def hr16 : Hints
  | 0 => [0, 1] | 1 => [1, 2] | 2 => [1, 2] | 3 => [] | 4 => [1, 2] | 5 => [1, 2] | 6 => [] | 7 => [1, 2] | 8 => [1] | 9 => [] | 10 => [1] | _ => []
@[go_sem] def hl16 : Hints := fun _ => []
attribute [go_sem] Go.Proofs.Try.results16
def Ev.cells (e : Ev) : List D := [.int .i64 e.kind, .int .i64 e.id, .str e.key, .str e.val, .int .i64 e.stage, .sl (bls e.left), .int .i64 e.torn]
def szEvent (e : Ev) (left : Int) : Int :=
  if sub64 left e.key.length < 0 then -1 else if sub64 (sub64 left e.key.length) e.val.length < 0 then -1 else
  if szBoolS e.left (sub64 (sub64 left e.key.length) e.val.length) < 0 then -1 else szBoolS e.left (sub64 (sub64 left e.key.length) e.val.length)
theorem c16 (e : Ev) (left : Int) : CallOK Go.Proofs.Try.prog 16 [.d (.agg e.cells), .d (.int .i64 left)] [] [.dead, .dead] (.d (.int .i64 (szEvent e left))) [] := by
  refine call_of tysEOK mixed Go.Proofs.Try.func16 (by kernel_rfl) rfl (np := [false, false]) (by kernel_rfl) hr16 hl16 (by simp [Go.Proofs.Try.ntmps16]) ?_
  simp -implicitDefEqProofs only [go_sem, reduceCtorEq, Ev.cells]
  refine way_dec (fun h1 => ?_) (fun h1 => ?_)
  · simp -implicitDefEqProofs only [go_sem, reduceCtorEq]
    simp [szEvent, sub64, h1]
  · simp -implicitDefEqProofs only [go_sem, reduceCtorEq]
    refine way_dec (fun h2 => ?_) (fun h2 => ?_)
    · simp -implicitDefEqProofs only [go_sem, reduceCtorEq]
      simp [szEvent, sub64, h1, h2]
    · simp -implicitDefEqProofs only [go_sem, reduceCtorEq]
      refine k35 _ _ rfl ?_
      simp -implicitDefEqProofs only [go_sem, reduceCtorEq]
      refine way_dec (fun h3 => ?_) (fun h3 => ?_)
      · simp -implicitDefEqProofs only [go_sem, reduceCtorEq]
        have : szEvent e left = -1 := by unfold szEvent sub64; rw [if_neg h1, if_neg h2, if_pos h3]
        rw [this]
      · simp -implicitDefEqProofs only [go_sem, reduceCtorEq]
        have : szEvent e left = szBoolS e.left (IntKind.i64.wrap (IntKind.i64.wrap (left - e.key.length) - e.val.length)) := by unfold szEvent sub64; rw [if_neg h1, if_neg h2, if_neg h3]
        rw [this]
theorem k16 {h : Heap} {tb : Nat} {K : OK} {args : List V} {ls : List Nat} (e : Ev) (left : Int) (hg : toDs h args = some ([.agg e.cells, .int .i64 left], ls))
    (hk : K (.d (.int .i64 (szEvent e left))) []) : callVC Go.Proofs.Try.prog h tb 16 args K :=
  call_free hg (c16 e left) rfl (.inr ⟨.d (.int _ _), flatH_nil⟩) hk

/-! f36, f38 -/
def inR (x lo hi : Int) : Bool := decide (lo ≤ x) && decide (x ≤ hi)
@[go_sem] def hr36 : Hints
  | 0 => [0, 1, 2] | 1 => [0, 1, 2] | _ => []
@[go_sem] def hl36 : Hints := fun _ => []
attribute [go_sem] Go.Proofs.Try.results36
theorem c36 (x lo hi : Int) : CallOK Go.Proofs.Try.prog 36 [.d (.int .i64 x), .d (.int .i64 lo), .d (.int .i64 hi)] [] [.dead, .dead, .dead] (.d (.bool (inR x lo hi))) [] := by
  refine call_of tysEOK mixed Go.Proofs.Try.func36 (by kernel_rfl) rfl (np := [false, false, false]) (by kernel_rfl) hr36 hl36 (by simp [Go.Proofs.Try.ntmps36]) ?_
  simp -implicitDefEqProofs only [go_sem, reduceCtorEq]
  refine wayT_dec (fun h1 => ?_) (fun h1 => ?_)
  · simp -implicitDefEqProofs only [go_sem, reduceCtorEq]
    simp [inR, h1]
  · simp -implicitDefEqProofs only [go_sem, reduceCtorEq]
    simp [inR, h1]
theorem k36 {h : Heap} {tb : Nat} {K : OK} {args : List V} {ls : List Nat} (x lo hi : Int) (hg : toDs h args = some ([.int .i64 x, .int .i64 lo, .int .i64 hi], ls))
    (hk : K (.d (.bool (inR x lo hi))) []) : callVC Go.Proofs.Try.prog h tb 36 args K :=
  call_free hg (c36 x lo hi) rfl (.inr ⟨.d (.bool _), flatH_nil⟩) hk
@[go_sem] def hr38 : Hints
  | 0 => [0, 1, 2] | 1 => [0, 1, 2] | _ => []
@[go_sem] def hl38 : Hints := fun _ => []
attribute [go_sem] Go.Proofs.Try.results38
theorem c38 (x lo hi : Int) : CallOK Go.Proofs.Try.prog 38 [.d (.int .i64 x), .d (.int .i64 lo), .d (.int .i64 hi)] [] [.dead, .dead, .dead] (.d (.bool (inR x lo hi))) [] := by
  refine call_of tysEOK mixed Go.Proofs.Try.func38 (by kernel_rfl) rfl (np := [false, false, false]) (by kernel_rfl) hr38 hl38 (by simp [Go.Proofs.Try.ntmps38]) ?_
  simp -implicitDefEqProofs only [go_sem, reduceCtorEq]
  refine wayT_dec (fun h1 => ?_) (fun h1 => ?_)
  · simp -implicitDefEqProofs only [go_sem, reduceCtorEq]
    simp [inR, h1]
  · simp -implicitDefEqProofs only [go_sem, reduceCtorEq]
    simp [inR, h1]
theorem k38 {h : Heap} {tb : Nat} {K : OK} {args : List V} {ls : List Nat} (x lo hi : Int) (hg : toDs h args = some ([.int .i64 x, .int .i64 lo, .int .i64 hi], ls))
    (hk : K (.d (.bool (inR x lo hi))) []) : callVC Go.Proofs.Try.prog h tb 38 args K :=
  call_free hg (c38 x lo hi) rfl (.inr ⟨.d (.bool _), flatH_nil⟩) hk

/-! f17, f19 EventOk -/
def evOk (e : Ev) : Bool := inR e.kind 1 10 && (inR e.id 1 9 && (decide ((e.key.length : Int) ≤ 30) && (decide ((e.val.length : Int) ≤ 30) && (inR e.stage 0 1 && (decide ((e.left.length : Int) ≤ 60) && inR e.torn (-1) 60)))))
@[go_sem] def hr17 : Hints
  | 0 => [0] | 1 => [1] | _ => []
@[go_sem] def hl17 : Hints := fun _ => []
attribute [go_sem] Go.Proofs.Try.results17
set_option maxHeartbeats 1000000 in
theorem c17 (e : Ev) : CallOK Go.Proofs.Try.prog 17 [.d (.agg e.cells)] [] [.dead] (.d (.bool (evOk e))) [] := by
  refine call_of tysEOK mixed Go.Proofs.Try.func17 (by kernel_rfl) rfl (np := [false]) (by kernel_rfl) hr17 hl17 (by simp [Go.Proofs.Try.ntmps17]) ?_
  simp -implicitDefEqProofs only [go_sem, reduceCtorEq, Ev.cells]
  repeat' ((first | refine k36 _ _ _ rfl ?_ | refine wayT_dec (fun h => ?_) (fun h => ?_) | refine wayT (fun h => ?_) (fun h => ?_)) <;> simp -implicitDefEqProofs only [go_sem, reduceCtorEq, bls_length])
  all_goals first | (simp_all [evOk]; done) | (simp_all [evOk]; intros; omega)
theorem k17 {h : Heap} {tb : Nat} {K : OK} {args : List V} {ls : List Nat} {x : D} (e : Ev) (hg : toDs h args = some ([x], ls)) (hx : x = .agg e.cells)
    (hk : K (.d (.bool (evOk e))) []) : callVC Go.Proofs.Try.prog h tb 17 args K := by
  subst hx; exact call_free hg (c17 e) rfl (.inr ⟨.d (.bool _), flatH_nil⟩) hk
@[go_sem] def hr19 : Hints
  | 0 => [0] | 1 => [1] | _ => []
@[go_sem] def hl19 : Hints := fun _ => []
attribute [go_sem] Go.Proofs.Try.results19
set_option maxHeartbeats 1000000 in
theorem c19 (e : Ev) : CallOK Go.Proofs.Try.prog 19 [.d (.agg e.cells)] [] [.dead] (.d (.bool (evOk e))) [] := by
  refine call_of tysEOK mixed Go.Proofs.Try.func19 (by kernel_rfl) rfl (np := [false]) (by kernel_rfl) hr19 hl19 (by simp [Go.Proofs.Try.ntmps19]) ?_
  simp -implicitDefEqProofs only [go_sem, reduceCtorEq, Ev.cells]
  repeat' ((first | refine k38 _ _ _ rfl ?_ | refine wayT_dec (fun h => ?_) (fun h => ?_) | refine wayT (fun h => ?_) (fun h => ?_)) <;> simp -implicitDefEqProofs only [go_sem, reduceCtorEq, bls_length])
  all_goals first | (simp_all [evOk]; done) | (simp_all [evOk]; intros; omega)
theorem k19 {h : Heap} {tb : Nat} {K : OK} {args : List V} {ls : List Nat} {x : D} (e : Ev) (hg : toDs h args = some ([x], ls)) (hx : x = .agg e.cells)
    (hk : K (.d (.bool (evOk e))) []) : callVC Go.Proofs.Try.prog h tb 19 args K := by
  subst hx; exact call_free hg (c19 e) rfl (.inr ⟨.d (.bool _), flatH_nil⟩) hk

/-! f37 toBoolS -/
@[go_sem] def hr37 : Hints
  | 0 => [0] | 1 => [0] | 2 => [0, 3] | 3 => [0, 3, 4] | 4 => [0, 3, 4] | 5 => [0, 3, 4] | 6 => [3] | _ => []
@[go_sem] def hl37 : Hints
  | 3 => [0, 3, 4] | _ => []
attribute [go_sem] Go.Proofs.Try.results37
theorem c37 (l : List Bool) (hl : l.length ≤ 1048576) : CallOK Go.Proofs.Try.prog 37 [.d (.sl (bls l))] [] [.dead] (.own 0 0 l.length) [(0, .arr 1 (bls l))] := by
  refine call_of tysEOK mixed Go.Proofs.Try.func37 (by kernel_rfl) rfl (np := [false]) (by kernel_rfl) hr37 hl37 (by simp [Go.Proofs.Try.ntmps37]) ?_
  simp -implicitDefEqProofs only [go_sem, reduceCtorEq, bls_length]
  repeat ((first | refine req (by first | assumption | omega) ?_); simp -implicitDefEqProofs only [go_sem, reduceCtorEq, bls_length])
  rw [bls_zero]
  refine loop_data (α := Nat × List Bool) (fun x => ⟨[(0, .d (.sl (bls l))), (3, .own 0 0 l.length), (4, .d (.int .i64 x.1))], [(0, some (.arr 1 (bls x.2)))]⟩)
    (fun x => x.1 ≤ l.length ∧ x.2.length = l.length ∧ x.2.take x.1 = l.take x.1) (fun x => l.length - x.1) (0, _) rfl ⟨Nat.zero_le _, by simp, by simp⟩ ?_
  rintro ⟨i, m⟩ ⟨h2, h3, h4⟩
  simp only at h2 h3 h4
  simp -implicitDefEqProofs only [go_sem, reduceCtorEq, bls_length]
  refine way_dec (fun h5 => ?_) (fun h5 => ?_)
  · obtain ⟨p, hp⟩ := some_at h5
    obtain ⟨q, hq⟩ := some_at (l := m) (h3 ▸ h5)
    simp -implicitDefEqProofs only [go_sem, reduceCtorEq, bls_length, lget_bls hp]
    repeat ((first | refine req (by first | assumption | omega) ?_); simp -implicitDefEqProofs only [go_sem, reduceCtorEq, bls_length, lget_bls hp, lget_bls hq])
    rw [wrap_succ (by simp only [LEN]; omega), bls_set]
    refine next_data (i + 1, m.set i p) rfl ⟨?_, by simpa using h3, take_set hp h3 h4⟩ ?_
    · simp only; omega
    · simp only; omega
  · simp -implicitDefEqProofs only [go_sem, reduceCtorEq, bls_length]
    rw [List.take_of_length_le (by omega), List.take_of_length_le (by omega)] at h4
    rw [h4]
theorem k37 {h : Heap} {tb : Nat} {K : OK} {args : List V} {ls : List Nat} (l : List Bool) (hg : toDs h args = some ([.sl (bls l)], ls)) (hl : l.length ≤ 1048576)
    (hk : K (.own tb 0 l.length) [(tb, some (.arr 1 (bls l)))]) : callVC Go.Proofs.Try.prog h tb 37 args K :=
  call_free hg (c37 l hl) rfl (.inr ⟨.own _ _ _, flatH_cons flat_bls flatH_nil⟩) hk

/-! f39 eqBoolS -/
@[go_sem] def hr39 : Hints
  | 0 => [0, 1] | 1 => [0, 1] | 2 => [] | 3 => [0, 1] | 4 => [0, 1, 5] | 5 => [0, 1, 5] | 6 => [0, 1, 5] | 7 => [] | 8 => [] | _ => []
@[go_sem] def hl39 : Hints
  | 4 => [0, 1, 5] | _ => []
attribute [go_sem] Go.Proofs.Try.results39
theorem c39 (l m : List Bool) (hl : l.length ≤ LEN) : CallOK Go.Proofs.Try.prog 39 [.d (.sl (bls l)), .d (.sl (bls m))] [] [.dead, .dead] (.d (.bool (decide (l = m)))) [] := by
  refine call_of tysEOK mixed Go.Proofs.Try.func39 (by kernel_rfl) rfl (np := [false, false]) (by kernel_rfl) hr39 hl39 (by simp [Go.Proofs.Try.ntmps39]) ?_
  simp -implicitDefEqProofs only [go_sem, reduceCtorEq, bls_length]
  refine way_ndec (fun h1 => ?_) (fun h1 => ?_)
  · simp -implicitDefEqProofs only [go_sem, reduceCtorEq]
    have : ¬ l = m := fun e => h1 (by rw [e])
    simp [this]
  · simp -implicitDefEqProofs only [go_sem, reduceCtorEq]
    refine loop_data (α := Nat) (fun i => ⟨[(0, .d (.sl (bls l))), (1, .d (.sl (bls m))), (5, .d (.int .i64 i))], []⟩)
      (fun i => i ≤ l.length ∧ l.take i = m.take i) (fun i => l.length - i) 0 rfl ⟨Nat.zero_le _, rfl⟩ ?_
    rintro i ⟨h2, h3⟩
    simp -implicitDefEqProofs only [go_sem, reduceCtorEq, bls_length]
    refine way_dec (fun h5 => ?_) (fun h5 => ?_)
    · obtain ⟨p, hp⟩ := some_at h5
      obtain ⟨q, hq⟩ := some_at (l := m) (h1 ▸ h5)
      simp -implicitDefEqProofs only [go_sem, reduceCtorEq, bls_length, lget_bls hp, lget_bls hq]
      repeat ((first | refine req (by first | assumption | omega | exact commP_of (by kernel_rfl)) ?_); simp -implicitDefEqProofs only [go_sem, reduceCtorEq, bls_length, lget_bls hp, lget_bls hq])
      refine way_not (fun h6 => ?_) (fun h6 => ?_)
      · simp -implicitDefEqProofs only [go_sem, reduceCtorEq]
        have : ¬ l = m := fun e => by rw [e, hq] at hp; simp at hp; simp [hp] at h6
        simp [this]
      · simp -implicitDefEqProofs only [go_sem, reduceCtorEq]
        rw [wrap_succ (by omega)]
        refine next_data (i + 1) rfl ⟨by omega, ?_⟩ (by omega)
        rw [take_snoc hp, take_snoc hq, h3, eq_of_beq h6]
    · simp -implicitDefEqProofs only [go_sem, reduceCtorEq]
      rw [List.take_of_length_le (by omega), List.take_of_length_le (by omega)] at h3
      simp [h3]
theorem k39 {h : Heap} {tb : Nat} {K : OK} {args : List V} {ls : List Nat} {xs ys : List (List D)} (l m : List Bool) (hg : toDs h args = some ([.sl xs, .sl ys], ls)) (hx : xs = bls l) (hy : ys = bls m) (hl : l.length ≤ LEN)
    (hk : K (.d (.bool (decide (l = m)))) []) : callVC Go.Proofs.Try.prog h tb 39 args K := by
  subst hx; subst hy; exact call_free hg (c39 l m hl) rfl (.inr ⟨.d (.bool _), flatH_nil⟩) hk

/-! f18 toEvent -/
@[go_sem] def hr18 : Hints
  | 0 => [0] | 1 => [1, 2] | 2 => [1, 2, 3] | 3 => [1, 2, 3] | 4 => [1, 2, 3] | 5 => [1, 2, 3] | 6 => [1, 2, 3] | 7 => [1, 2, 3] | 8 => [1, 2, 3] | 9 => [2, 3] | _ => []
@[go_sem] def hl18 : Hints := fun _ => []
attribute [go_sem] Go.Proofs.Try.results18
theorem c18 (e : Ev) (hl : e.left.length ≤ 1048576) : CallOK Go.Proofs.Try.prog 18 [.d (.agg e.cells)] [] [.dead]
    (.agg [.d (.int .i64 e.kind), .d (.int .i64 e.id), .d (.str e.key), .d (.str e.val), .d (.int .i64 e.stage), .own 0 0 e.left.length, .d (.int .i64 e.torn)]) [(0, .arr 1 (bls e.left))] := by
  refine call_of tysEOK mixed Go.Proofs.Try.func18 (by kernel_rfl) rfl (np := [false]) (by kernel_rfl) hr18 hl18 (by simp [Go.Proofs.Try.ntmps18]) ?_
  simp -implicitDefEqProofs only [go_sem, reduceCtorEq, Ev.cells]
  repeat ((first | refine k37 _ rfl hl ?_ | refine req (by first | assumption | omega) ?_); simp -implicitDefEqProofs only [go_sem, reduceCtorEq])
theorem k18 {h : Heap} {tb : Nat} {K : OK} {args : List V} {ls : List Nat} {x : D} (e : Ev) (hg : toDs h args = some ([x], ls)) (hx : x = .agg e.cells) (hl : e.left.length ≤ 1048576)
    (hk : K (.agg [.d (.int .i64 e.kind), .d (.int .i64 e.id), .d (.str e.key), .d (.str e.val), .d (.int .i64 e.stage), .own tb 0 e.left.length, .d (.int .i64 e.torn)]) [(tb, some (.arr 1 (bls e.left)))]) : callVC Go.Proofs.Try.prog h tb 18 args K := by
  subst hx
  exact call_free hg (c18 e hl) rfl (.inr ⟨.agg (fun v hv => by simp at hv; rcases hv with rfl | rfl | rfl | rfl | rfl | rfl | rfl <;> first | exact .d (.int _ _) | exact .d (.str _) | exact .own _ _ _), flatH_cons flat_bls flatH_nil⟩) hk

/-! f20 eqEvent -/
@[go_sem] def hr20 : Hints
  | 0 => [0, 1] | 1 => [2, 3] | 2 => [] | 3 => [2, 3] | 4 => [] | 5 => [2, 3] | 6 => [] | 7 => [2, 3] | 8 => [] | 9 => [2, 3] | 10 => [] | 11 => [2, 3] | 12 => [] | 13 => [2, 3] | 14 => [] | 15 => [] | _ => []
@[go_sem] def hl20 : Hints := fun _ => []
attribute [go_sem] Go.Proofs.Try.results20
set_option maxHeartbeats 1000000 in
theorem c20 (e : Ev) (hl : e.left.length ≤ LEN) : CallOK Go.Proofs.Try.prog 20 [.d (.agg e.cells), .d (.agg e.cells)] [] [.dead, .dead] (.d (.bool true)) [] := by
  refine call_of tysEOK mixed Go.Proofs.Try.func20 (by kernel_rfl) rfl (np := [false, false]) (by kernel_rfl) hr20 hl20 (by simp [Go.Proofs.Try.ntmps20]) ?_
  simp -implicitDefEqProofs only [go_sem, reduceCtorEq, Ev.cells]
  repeat ((first | refine k39 _ _ rfl rfl rfl hl ?_ | refine req (by first | assumption | omega) ?_); simp -implicitDefEqProofs only [go_sem, reduceCtorEq])
theorem k20 {h : Heap} {tb : Nat} {K : OK} {args : List V} {ls : List Nat} {x y : D} (e : Ev) (hg : toDs h args = some ([x, y], ls)) (hx : x = .agg e.cells) (hy : y = .agg e.cells) (hl : e.left.length ≤ LEN)
    (hk : K (.d (.bool true)) []) : callVC Go.Proofs.Try.prog h tb 20 args K := by
  subst hx; subst hy; exact call_free hg (c20 e hl) rfl (.inr ⟨.d (.bool _), flatH_nil⟩) hk

/-! f5 FnExactEventOk -/
theorem szBoolS_ok {l : List Bool} {a : Int} (h1 : 0 ≤ a) (h2 : a ≤ 1048576) (hl : l.length ≤ LEN) (h : ¬ szBoolS l a < 0) : (l.length : Int) ≤ a := by
  unfold szBoolS at h
  rw [sub64_eq h1 h2 hl] at h
  split at h <;> omega
def Ev.ok (e : Ev) : Prop := e.key.length ≤ LEN ∧ e.val.length ≤ LEN ∧ e.left.length ≤ LEN
theorem szEvent_ok {e : Ev} (hp : e.ok) (h : ¬ szEvent e 1048576 < 0) : e.left.length ≤ 1048576 := by
  unfold szEvent at h
  obtain ⟨h1, h2, h3⟩ := hp
  rw [sub64_eq (by omega) (by omega) h1] at h
  split at h
  · omega
  · rw [sub64_eq (by omega) (by omega) h2] at h
    split at h
    · omega
    · split at h
      · omega
      · rename_i h4
        have := szBoolS_ok (by omega) (by omega) h3 h4
        omega
@[go_sem] def hr5 : Hints
  | 0 => [0] | 1 => [1] | 2 => [1, 3] | 3 => [1, 3] | 4 => [] | 5 => [1] | 6 => [1, 4] | 7 => [1, 4, 5] | 8 => [1, 4, 5, 6] | 9 => [] | 10 => [1, 5] | 11 => [] | 12 => [] | _ => []
@[go_sem] def hl5 : Hints := fun _ => []
attribute [go_sem] Go.Proofs.Try.results5
theorem c5 (e : Ev) (hp : e.ok) : CallOK Go.Proofs.Try.prog 5 [.d (.agg e.cells)] [] [.dead] (.d (.bool true)) [] := by
  refine call_of tysEOK mixed Go.Proofs.Try.func5 (by kernel_rfl) rfl (np := [false]) (by kernel_rfl) hr5 hl5 (by simp [Go.Proofs.Try.ntmps5]) ?_
  simp -implicitDefEqProofs only [go_sem, reduceCtorEq, Ev.cells]
  refine k16 e _ rfl ?_
  simp -implicitDefEqProofs only [go_sem, reduceCtorEq]
  refine way_dec (fun h1 => ?_) (fun h1 => ?_)
  · simp -implicitDefEqProofs only [go_sem, reduceCtorEq]
  · have hn := szEvent_ok hp h1
    simp -implicitDefEqProofs only [go_sem, reduceCtorEq]
    repeat ((first | refine k18 e rfl rfl hn ?_ | refine k17 e rfl (by first | rfl | (rw [bls_whole rfl]; rfl)) ?_ | refine k19 e rfl (by first | rfl | (rw [bls_whole rfl]; rfl)) ?_ | refine k20 e rfl (by first | rfl | (rw [bls_whole rfl]; rfl)) (by first | rfl | (rw [bls_whole rfl]; rfl)) hp.2.2 ?_ | refine req (by first | assumption | omega | exact commP_of (by kernel_rfl)) ?_ | refine onSome_of rfl ?_); simp -implicitDefEqProofs only [go_sem, reduceCtorEq])
end Go.Rx
