/-
  Contracts of functions of the program, each for all data of the shape that it names.
-/
import Derived.Test.YtedopmfciabdcaaRxP4
namespace Go.Rx
open Go
attribute [local irreducible] Req Way WayG Sel
set_option linter.unusedSimpArgs false
set_option linter.unusedVariables false
@[go_sem] def tysM : Tys
  | 3 => some ⟨1, 8, .int .i64, [.d (.int .i64 0)]⟩
  | 4 => some ⟨1, 1, .bool, [.d (.bool false)]⟩
  | 5 => some ⟨1, 1, .int .u8, [.d (.int .u8 0)]⟩
  | 9 => some ⟨1, 16, .str, [.d (.str [])]⟩
  | 22 => some ⟨1, 24, .slice 53, [.nils 2]⟩
  | 25 => some ⟨1, 24, .slice 49, [.nils 2]⟩
  | 44 => some ⟨1, 24, .slice 5, [.nils 1]⟩
  | 49 => some ⟨2, 32, .struct [(0, 9), (1, 9)], [.d (.str []), .d (.str [])]⟩
  | 53 => some ⟨2, 32, .struct [(0, 9), (1, 9)], [.d (.str []), .d (.str [])]⟩
  | 70 => some ⟨1, 24, .slice 25, [.nils 1]⟩
  | _ => none
theorem tysMOK : TyOK Go.Proofs.Try.prog tysM := by
  refine tyOK_of fun t i h => ?_
  unfold tysM at h
  split at h <;> first | (cases h; kernel_rfl) | cases h

/-! f43 markText -/
def mtGo (n : Nat) (acc : List UInt8) : List UInt8 := if n = 0 then acc else mtGo (n / 10) (UInt8.ofNat (48 + n % 10) :: acc)
decreasing_by omega
def mt (n : Nat) : List UInt8 := if n = 0 then [109, 48] else 109 :: mtGo n []
theorem mtGo_step {n : Nat} {acc : List UInt8} (h : n ≠ 0) : mtGo n acc = mtGo (n / 10) (UInt8.ofNat (48 + n % 10) :: acc) := by
  conv => lhs; unfold mtGo
  rw [if_neg h]
theorem mtGo_zero {acc : List UInt8} : mtGo 0 acc = acc := by unfold mtGo; simp

theorem dig_eq {n : Nat} (h : n ≤ 4294967296) : IntKind.u8.wrap (IntKind.i64.wrap (48 + Int.tmod (n : Int) 10)) = ((48 + n % 10 : Nat) : Int) := by
  have h1 : Int.tmod (n : Int) 10 = ((n % 10 : Nat) : Int) := rfl
  rw [h1, wrap_int (by omega) (by omega)]
  simp only [IntKind.wrap, IntKind.bits, IntKind.signed]
  simp
  omega
theorem quo_eq {n : Nat} (h : n ≤ 4294967296) : IntKind.i64.wrap (Int.tdiv (n : Int) 10) = ((n / 10 : Nat) : Int) := by
  have h1 : Int.tdiv (n : Int) 10 = ((n / 10 : Nat) : Int) := rfl
  rw [h1, wrap_int (by omega) (by omega)]
theorem byteOf_dig {n : Nat} : byteOf [.int .u8 ((48 + n % 10 : Nat) : Int)] = UInt8.ofNat (48 + n % 10) := rfl
theorem byteCell_dig {n : Nat} : [byteCell (UInt8.ofNat (48 + n % 10))] = [[D.int .u8 ((48 + n % 10 : Nat) : Int)]] := by
  simp [byteCell]
  omega

@[go_sem] def hr43 : Hints
  | 0 => [0] | 1 => [0] | 2 => [] | 3 => [0] | 4 => [0, 3] | 5 => [0, 3] | 6 => [0, 3] | 7 => [3] | _ => []
@[go_sem] def hl43 : Hints
  | 4 => [0, 3] | _ => []
attribute [go_sem] Go.Proofs.Try.results43
theorem c43 (n : Nat) (hn : n ≤ 4294967296) : CallOK Go.Proofs.Try.prog 43 [.d (.int .i64 n)] [] [.dead] (.d (.str (mt n))) [] := by
  refine call_of tysMOK mixed Go.Proofs.Try.func43 (by kernel_rfl) rfl (np := [false]) (by kernel_rfl) hr43 hl43 (by simp [Go.Proofs.Try.ntmps43]) ?_
  simp -implicitDefEqProofs only [go_sem, reduceCtorEq]
  refine way_dec (fun h1 => ?_) (fun h1 => ?_)
  · simp -implicitDefEqProofs only [go_sem, reduceCtorEq]
    have : n = 0 := by omega
    simp [mt, this]
  · simp -implicitDefEqProofs only [go_sem, reduceCtorEq]
    refine loop_data (α := Nat × List UInt8) (fun x => ⟨[(0, .d (.int .i64 x.1)), (3, .d (.str x.2))], []⟩)
      (fun x => x.1 + x.2.length ≤ n ∧ mtGo x.1 x.2 = mtGo n []) (fun x => x.1) (n, []) rfl ⟨by simp, rfl⟩ ?_
    rintro ⟨k, acc⟩ ⟨h2, h3⟩
    simp only at h2 h3
    simp -implicitDefEqProofs only [go_sem, reduceCtorEq]
    refine way_dec (fun h4 => ?_) (fun h4 => ?_)
    · simp -implicitDefEqProofs only [go_sem, reduceCtorEq, dig_eq (n := k) (by omega), quo_eq (n := k) (by omega), byteOf_dig]
      repeat ((first | refine req (by first | assumption | omega | decide | exact byteCell_dig | (simp [D.one]; done) | (simp only [LEN, List.length_cons, List.length_nil]; omega)) ?_); simp -implicitDefEqProofs only [go_sem, reduceCtorEq, dig_eq (n := k) (by omega), quo_eq (n := k) (by omega), byteOf_dig])
      refine next_data (k / 10, UInt8.ofNat (48 + k % 10) :: acc) rfl ⟨?_, ?_⟩ ?_
      · simp only [List.length_cons]; omega
      · exact (mtGo_step (by omega)).symm.trans h3
      · simp only; omega
    · simp -implicitDefEqProofs only [go_sem, reduceCtorEq]
      have hk : k = 0 := by omega
      subst hk
      rw [mtGo_zero] at h3
      repeat ((first | refine req (by first | assumption | omega | (simp only [LEN, List.length_cons, List.length_nil]; omega)) ?_); simp -implicitDefEqProofs only [go_sem, reduceCtorEq])
      have : n ≠ 0 := by omega
      simp [mt, this, h3]
theorem k43 {h : Heap} {tb : Nat} {K : OK} {args : List V} {ls : List Nat} (n : Nat) (hg : toDs h args = some ([.int .i64 n], ls)) (hn : n ≤ 4294967296)
    (hk : K (.d (.str (mt n))) []) : callVC Go.Proofs.Try.prog h tb 43 args K :=
  call_free hg (c43 n hn) rfl (.inr ⟨.d (.str _), flatH_nil⟩) hk

/-! f23 markPairS, f24 heldPairS -/
def markP (n k : Nat) : Pr := ⟨mt (n + 2 * k), mt (n + 2 * k + 1)⟩
def markL (n len : Nat) : List Pr := (List.range len).map (markP n)
theorem markL_length {n len : Nat} : (markL n len).length = len := by simp [markL]
theorem markL_at {n len i : Nat} (h : i < len) : (markL n len)[i]? = some (markP n i) := by simp [markL, List.getElem?_range h]
theorem prs_set2 {m : List Pr} {i : Nat} {a b : List UInt8} : (prs m).set i [.str a, .str b] = prs (m.set i ⟨a, b⟩) := prs_set (p := ⟨a, b⟩)
theorem i64_lit {n k : Nat} (h : n + k ≤ 4294967296) : IntKind.i64.wrap ((n : Int) + (k : Int)) = ((n + k : Nat) : Int) := by rw [wrap_int (by omega) (by omega)]; omega

@[go_sem] def hr23 : Hints
  | 0 => [0, 1] | 1 => [0, 1] | 2 => [0, 1, 5] | 3 => [0, 1, 5] | 4 => [0, 1, 5] | 5 => [0, 1, 5] | 6 => [0, 1, 5] | 7 => [0, 1, 5] | 8 => [0, 1] | _ => []
@[go_sem] def hl23 : Hints
  | 2 => [0, 1, 5] | _ => []
attribute [go_sem] Go.Proofs.Try.results23
theorem c23 (l : List Pr) (len n : Nat) (hle : len ≤ l.length) (hl : len ≤ 2097152) (hn : n ≤ 1048576) : CallOK Go.Proofs.Try.prog 23 [.own 0 0 len, .d (.int .i64 n)] [(0, .arr 2 (prs l))] [.own 0 0 len, .dead]
    (.d (.int .i64 ((n + 2 * len : Nat) : Int))) [(0, .arr 2 (prs (markL n len ++ l.drop len)))] := by
  refine call_of tysMOK mixed Go.Proofs.Try.func23 (by kernel_rfl) rfl (np := [true, false]) (by kernel_rfl) hr23 hl23 (by simp [Go.Proofs.Try.ntmps23]) ?_
  simp -implicitDefEqProofs only [go_sem, reduceCtorEq]
  refine loop_data (α := Nat × List Pr) (fun x => ⟨[(0, .own 0 0 len), (1, .d (.int .i64 ((n + 2 * x.1 : Nat) : Int))), (5, .d (.int .i64 x.1))], [(0, some (.arr 2 (prs x.2)))]⟩)
    (fun x => x.1 ≤ len ∧ x.2.length = l.length ∧ x.2.take x.1 = (markL n len).take x.1 ∧ x.2.drop len = l.drop len) (fun x => len - x.1) (0, l) rfl ⟨by simp, rfl, rfl, rfl⟩ ?_
  rintro ⟨i, m⟩ ⟨h2, h3, h4, h6⟩
  simp only at h2 h3 h4 h6
  simp -implicitDefEqProofs only [go_sem, reduceCtorEq, prs_length]
  refine way_dec (fun h5 => ?_) (fun h5 => ?_)
  · obtain ⟨q, hq⟩ := some_at (l := m) (i := i) (by omega)
    have hq2 : ∀ x : Pr, lget (prs (m.set i x)) i = [.str x.key, .str x.val] := fun x => lget_prs (List.getElem?_set_self (by omega))
    have e1 : IntKind.i64.wrap (((n + 2 * i : Nat) : Int) + 1) = ((n + 2 * i + 1 : Nat) : Int) := wrap_succ (by simp only [LEN]; omega)
    have e2 : IntKind.i64.wrap (((n + 2 * i + 1 : Nat) : Int) + 1) = ((n + 2 * (i + 1) : Nat) : Int) := by rw [wrap_succ (by simp only [LEN]; omega)]; congr 1
    simp -implicitDefEqProofs only [go_sem, reduceCtorEq, prs_length, lget_prs hq, prs_set2, hq2, e1, e2]
    repeat ((first | refine req (by first | assumption | omega | (simp; omega)) ?_ | refine k43 _ rfl (by omega) ?_); simp -implicitDefEqProofs only [go_sem, reduceCtorEq, prs_length, lget_prs hq, prs_set2, hq2, e1, e2])
    rw [wrap_succ (by simp only [LEN]; omega), List.set_set]
    refine next_data (i + 1, m.set i (markP n i)) rfl ⟨?_, by simpa using h3, ?_, ?_⟩ ?_
    · simp only; omega
    · simp only
      rw [List.take_succ_eq_append_getElem (by simp; omega), List.take_succ_eq_append_getElem (by rw [markL_length]; omega)]
      have hm := markL_at (n := n) (len := len) (i := i) (by omega)
      obtain ⟨_, hm⟩ := List.getElem?_eq_some_iff.1 hm
      rw [hm]
      simp [List.take_set_of_le, h4]
    · simp only; rw [List.drop_set_of_lt (by omega)]; exact h6
    · simp only; omega
  · simp -implicitDefEqProofs only [go_sem, reduceCtorEq]
    have hi : i = len := by omega
    subst hi
    rw [List.take_of_length_le (l := markL n i) (by rw [markL_length]; exact Nat.le_refl _)] at h4
    rw [← h4, ← h6, List.take_append_drop]
theorem k23 {h : Heap} {tb : Nat} {K : OK} {k : Nat} {rest : List V} {ls : List Nat} (l : List Pr) (len n : Nat) (hh : h k = some (.arr 2 (prs l))) (hg : toDs h rest = some ([.int .i64 n], ls)) (hnl : ls.contains k = false) (hle : len ≤ l.length) (hl : len ≤ 2097152) (hn : n ≤ 1048576)
    (hk : K (.d (.int .i64 ((n + 2 * len : Nat) : Int))) [(k, none), (k, some (.arr 2 (prs (markL n len ++ l.drop len))))]) : callVC Go.Proofs.Try.prog h tb 23 (.own k 0 len :: rest) K :=
  call_own hh hg hnl (c23 l len n hle hl hn) (by rw [prs_length, prs_length, List.length_append, markL_length, List.length_drop]; omega) (.d (.int _ _)) flat_prs hk
theorem read_mark {n len : Nat} {r : List Pr} : ((prs (markL n len ++ r)).drop 0).take len = prs (markL n len) := by
  rw [prs, List.map_append, List.drop_zero]
  exact List.take_left' (by rw [List.length_map]; exact markL_length)

@[go_sem] def hr24 : Hints
  | 0 => [0, 1] | 1 => [0, 1] | 2 => [0, 1, 5] | 3 => [0, 1, 5] | 4 => [0, 1, 5] | 5 => [] | 6 => [0, 1, 5] | 7 => [0, 1, 5] | 8 => [] | 9 => [0, 1, 5] | 10 => [1] | _ => []
@[go_sem] def hl24 : Hints
  | 2 => [0, 1, 5] | _ => []
attribute [go_sem] Go.Proofs.Try.results24
theorem c24 (n len : Nat) (hl : len ≤ 2097152) (hn : n ≤ 1048576) : CallOK Go.Proofs.Try.prog 24 [.d (.sl (prs (markL n len))), .d (.int .i64 n)] [] [.dead, .dead] (.d (.int .i64 ((n + 2 * len : Nat) : Int))) [] := by
  refine call_of tysMOK mixed Go.Proofs.Try.func24 (by kernel_rfl) rfl (np := [false, false]) (by kernel_rfl) hr24 hl24 (by simp [Go.Proofs.Try.ntmps24]) ?_
  simp -implicitDefEqProofs only [go_sem, reduceCtorEq, prs_length, markL_length]
  refine loop_data (α := Nat) (fun i => ⟨[(0, .d (.sl (prs (markL n len)))), (1, .d (.int .i64 ((n + 2 * i : Nat) : Int))), (5, .d (.int .i64 i))], []⟩)
    (fun i => i ≤ len) (fun i => len - i) 0 rfl (Nat.zero_le _) ?_
  rintro i h2
  simp -implicitDefEqProofs only [go_sem, reduceCtorEq, prs_length, markL_length]
  refine way_dec (fun h5 => ?_) (fun h5 => ?_)
  · have hp : (markL n len)[i]? = some ⟨mt (n + 2 * i), mt (n + 2 * i + 1)⟩ := markL_at (by omega)
    have e1 : IntKind.i64.wrap (((n + 2 * i : Nat) : Int) + 1) = ((n + 2 * i + 1 : Nat) : Int) := wrap_succ (by simp only [LEN]; omega)
    have e2 : IntKind.i64.wrap (((n + 2 * i + 1 : Nat) : Int) + 1) = ((n + 2 * (i + 1) : Nat) : Int) := by rw [wrap_succ (by simp only [LEN]; omega)]; congr 1
    simp -implicitDefEqProofs only [go_sem, reduceCtorEq, prs_length, markL_length, lget_prs hp, e1, e2]
    repeat ((first | refine req (by first | assumption | omega | exact commP_of (by kernel_rfl)) ?_ | refine k43 _ rfl (by omega) ?_); simp -implicitDefEqProofs only [go_sem, reduceCtorEq, prs_length, markL_length, lget_prs hp, e1, e2, decide_true])
    rw [wrap_succ (by simp only [LEN]; omega)]
    exact next_data (i + 1) rfl (by omega) (by omega)
  · simp -implicitDefEqProofs only [go_sem, reduceCtorEq]
    have hi : i = len := by omega
    subst hi
    rfl
theorem k24 {h : Heap} {tb : Nat} {K : OK} {args : List V} {ls : List Nat} {xs : List (List D)} (n len : Nat) (hg : toDs h args = some ([.sl xs, .int .i64 n], ls)) (hx : xs = prs (markL n len)) (hl : len ≤ 2097152) (hn : n ≤ 1048576)
    (hk : K (.d (.int .i64 ((n + 2 * len : Nat) : Int))) []) : callVC Go.Proofs.Try.prog h tb 24 args K := by
  subst hx; exact call_free hg (c24 n len hl hn) rfl (.inr ⟨.d (.int _ _), flatH_nil⟩) hk
end Go.Rx
