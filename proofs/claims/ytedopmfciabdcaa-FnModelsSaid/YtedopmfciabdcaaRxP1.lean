/-
  Contracts of functions of the program, each for all data of the shape that it names.
-/
import Derived.Test.YtedopmfciabdcaaRxCall
import Derived.Test.YtedopmfciabdcaaProg
namespace Go.Rx
open Go
attribute [local irreducible] Req Way WayG Sel
@[go_sem] def tys : Tys
  | 3 => some ⟨1, 8, .int .i64, [.d (.int .i64 0)]⟩
  | 4 => some ⟨1, 1, .bool, [.d (.bool false)]⟩
  | 9 => some ⟨1, 16, .str, [.d (.str [])]⟩
  | 22 => some ⟨1, 24, .slice 53, [.nils 2]⟩
  | 25 => some ⟨1, 24, .slice 49, [.nils 2]⟩
  | 49 => some ⟨2, 32, .struct [(0, 9), (1, 9)], [.d (.str []), .d (.str [])]⟩
  | 53 => some ⟨2, 32, .struct [(0, 9), (1, 9)], [.d (.str []), .d (.str [])]⟩
  | _ => none
theorem tysOK : TyOK Go.Proofs.Try.prog tys := by
  refine tyOK_of fun t i h => ?_
  unfold tys at h
  split at h <;> first | (cases h; kernel_rfl) | cases h
theorem mixed : Go.Proofs.Try.prog.follows .mixedOrders = true := by kernel_rfl

structure Pr where
  key : List UInt8
  val : List UInt8
  deriving DecidableEq, Inhabited
def Pr.cells (p : Pr) : List D := [.str p.key, .str p.val]
def prs (l : List Pr) : List (List D) := l.map Pr.cells
theorem prs_length {l : List Pr} : (prs l).length = l.length := by simp [prs]
theorem lget_prs {l : List Pr} {i : Nat} {p : Pr} (h : l[i]? = some p) : lget (prs l) i = [.str p.key, .str p.val] := by
  simp [lget, prs, List.getD, h, Pr.cells]
theorem prs_whole {l : List Pr} {n : Nat} (h : n = l.length) : ((prs l).drop 0).take n = prs l := by subst h; rw [List.drop_zero, ← prs_length, List.take_length]
theorem flat_prs {l : List Pr} : FlatO (.arr 2 (prs l)) := by
  intro e he d hd
  simp only [prs, List.mem_map] at he
  obtain ⟨p, _, rfl⟩ := he
  simp only [Pr.cells, List.mem_cons, List.not_mem_nil, or_false] at hd
  rcases hd with rfl | rfl <;> exact .str _

theorem drop_cons {α : Type} {l : List α} {i : Nat} {p : α} (h : l[i]? = some p) : l.drop i = p :: l.drop (i + 1) := by
  obtain ⟨hi, h⟩ := List.getElem?_eq_some_iff.1 h
  rw [List.drop_eq_getElem_cons hi, h]
theorem take_snoc {α : Type} {l : List α} {i : Nat} {p : α} (h : l[i]? = some p) : l.take (i + 1) = l.take i ++ [p] := by
  obtain ⟨hi, h⟩ := List.getElem?_eq_some_iff.1 h
  rw [List.take_succ_eq_append_getElem hi, h]
theorem some_at {α : Type} {l : List α} {i : Nat} (h : (i : Int) < (l.length : Int)) : ∃ p, l[i]? = some p :=
  ⟨l[i]'(by omega), by simp⟩
def sub64 (a : Int) (n : Nat) : Int := IntKind.i64.wrap (a - n)

/-! f31 szPair -/
def szPair (p : Pr) (left : Int) : Int :=
  if sub64 left p.key.length < 0 then -1 else if sub64 (sub64 left p.key.length) p.val.length < 0 then -1 else sub64 (sub64 left p.key.length) p.val.length

@[go_sem] def hr31 : Hints
  | 0 => [0, 1] | 1 => [1, 2] | 2 => [1, 2] | 3 => [] | 4 => [1, 2] | 5 => [1] | 6 => [] | 7 => [1] | _ => []
@[go_sem] def hl31 : Hints := fun _ => []
attribute [go_sem] Go.Proofs.Try.results31
theorem c31 (p : Pr) (left : Int) : CallOK Go.Proofs.Try.prog 31 [.d (.agg p.cells), .d (.int .i64 left)] [] [.dead, .dead] (.d (.int .i64 (szPair p left))) [] := by
  refine call_of tysOK mixed Go.Proofs.Try.func31 (by kernel_rfl) rfl (np := [false, false]) (by kernel_rfl) hr31 hl31 (by simp [Go.Proofs.Try.ntmps31]) ?_
  simp -implicitDefEqProofs only [go_sem, reduceCtorEq, Pr.cells]
  refine way_dec (fun h1 => ?_) (fun h1 => ?_)
  · simp -implicitDefEqProofs only [go_sem, reduceCtorEq]
    simp [szPair, sub64, h1]
  · simp -implicitDefEqProofs only [go_sem, reduceCtorEq]
    refine way_dec (fun h2 => ?_) (fun h2 => ?_)
    · simp -implicitDefEqProofs only [go_sem, reduceCtorEq]
      simp [szPair, sub64, h1, h2]
    · simp -implicitDefEqProofs only [go_sem, reduceCtorEq]
      simp [szPair, sub64, h1, h2]
theorem k31 {h : Heap} {tb : Nat} {K : OK} {args : List V} {ls : List Nat} (p : Pr) (left : Int) (hg : toDs h args = some ([.agg [.str p.key, .str p.val], .int .i64 left], ls))
    (hk : K (.d (.int .i64 (szPair p left))) []) : callVC Go.Proofs.Try.prog h tb 31 args K :=
  call_free hg (c31 p left) rfl (.inr ⟨.d (.int _ _), flatH_nil⟩) hk

/-! f9 szPairS -/
def szGo : List Pr → Int → Int
  | [], left => left
  | p :: l, left => if szPair p left < 0 then -1 else szGo l (szPair p left)
def szPairS (l : List Pr) (left : Int) : Int := if sub64 left l.length < 0 then -1 else szGo l (sub64 left l.length)

@[go_sem] def hr9 : Hints
  | 0 => [0, 1] | 1 => [0, 1] | 2 => [0, 1] | 3 => [] | 4 => [0, 1] | 5 => [0, 1, 5] | 6 => [0, 1, 5] | 7 => [0, 1, 5] | 8 => [0, 1, 5] | 9 => [] | 10 => [1] | _ => []
@[go_sem] def hl9 : Hints
  | 5 => [0, 1, 5] | _ => []
attribute [go_sem] Go.Proofs.Try.results9
theorem c9 (l : List Pr) (left : Int) (hl : l.length ≤ LEN) : CallOK Go.Proofs.Try.prog 9 [.d (.sl (prs l)), .d (.int .i64 left)] [] [.dead, .dead] (.d (.int .i64 (szPairS l left))) [] := by
  refine call_of tysOK mixed Go.Proofs.Try.func9 (by kernel_rfl) rfl (np := [false, false]) (by kernel_rfl) hr9 hl9 (by simp [Go.Proofs.Try.ntmps9]) ?_
  simp -implicitDefEqProofs only [go_sem, reduceCtorEq, prs_length]
  refine way_dec (fun h1 => ?_) (fun h1 => ?_)
  · simp -implicitDefEqProofs only [go_sem, reduceCtorEq]
    simp [szPairS, sub64, h1]
  · simp -implicitDefEqProofs only [go_sem, reduceCtorEq]
    refine loop_data (α := Nat × Int) (fun x => ⟨[(0, .d (.sl (prs l))), (1, .d (.int .i64 x.2)), (5, .d (.int .i64 x.1))], []⟩)
      (fun x => x.1 ≤ l.length ∧ szGo (l.drop x.1) x.2 = szPairS l left) (fun x => l.length - x.1) (0, IntKind.i64.wrap (left - l.length)) rfl ⟨Nat.zero_le _, by simp [szPairS, sub64, h1]⟩ ?_
    rintro ⟨i, lf⟩ ⟨h2, h3⟩
    simp -implicitDefEqProofs only [go_sem, reduceCtorEq, prs_length]
    refine way_dec (fun h4 => ?_) (fun h4 => ?_)
    · obtain ⟨p, hp⟩ := some_at h4
      rw [drop_cons hp] at h3
      simp -implicitDefEqProofs only [go_sem, reduceCtorEq, prs_length, lget_prs hp]
      repeat ((first | refine req (by first | assumption | omega) ?_ | refine k31 _ _ rfl ?_); simp -implicitDefEqProofs only [go_sem, reduceCtorEq, prs_length, lget_prs hp])
      refine way_dec (fun h5 => ?_) (fun h5 => ?_)
      · simp -implicitDefEqProofs only [go_sem, reduceCtorEq]
        simp [szGo, h5] at h3
        simp [← h3]
      · simp -implicitDefEqProofs only [go_sem, reduceCtorEq]
        refine next_data (i + 1, szPair p lf) ?_ ⟨?_, ?_⟩ ?_
        · simp [wrap_succ (by omega : i < LEN)]
        · omega
        · simpa [szGo, h5] using h3
        · simp; omega
    · simp -implicitDefEqProofs only [go_sem, reduceCtorEq, prs_length]
      rw [List.drop_eq_nil_of_le (by omega)] at h3
      simp [szGo] at h3
      simp [h3]
theorem k9 {h : Heap} {tb : Nat} {K : OK} {args : List V} {ls : List Nat} (l : List Pr) (left : Int) (hg : toDs h args = some ([.sl (prs l), .int .i64 left], ls)) (hl : l.length ≤ LEN)
    (hk : K (.d (.int .i64 (szPairS l left))) []) : callVC Go.Proofs.Try.prog h tb 9 args K :=
  call_free hg (c9 l left hl) rfl (.inr ⟨.d (.int _ _), flatH_nil⟩) hk

/-! f32 toPair -/
@[go_sem] def hr32 : Hints
  | 0 => [0] | 1 => [1, 2] | 2 => [1, 2, 3] | 3 => [1, 2, 3] | 4 => [2, 3] | _ => []
@[go_sem] def hl32 : Hints := fun _ => []
attribute [go_sem] Go.Proofs.Try.results32
theorem c32 (p : Pr) : CallOK Go.Proofs.Try.prog 32 [.d (.agg p.cells)] [] [.dead] (.agg [.d (.str p.key), .d (.str p.val)]) [] := by
  refine call_of tysOK mixed Go.Proofs.Try.func32 (by kernel_rfl) rfl (np := [false]) (by kernel_rfl) hr32 hl32 (by simp [Go.Proofs.Try.ntmps32]) ?_
  simp -implicitDefEqProofs only [go_sem, reduceCtorEq, Pr.cells]
theorem k32 {h : Heap} {tb : Nat} {K : OK} {args : List V} {ls : List Nat} (p : Pr) (hg : toDs h args = some ([.agg [.str p.key, .str p.val]], ls))
    (hk : K (.agg [.d (.str p.key), .d (.str p.val)]) []) : callVC Go.Proofs.Try.prog h tb 32 args K :=
  call_free hg (c32 p) rfl (.inr ⟨.agg (fun v hv => by simp at hv; rcases hv with rfl | rfl <;> exact .d (.str _)), flatH_nil⟩) hk

/-! f33 eqPair -/
@[go_sem] def hr33 : Hints
  | 0 => [0, 1] | 1 => [2, 3] | 2 => [] | 3 => [2, 3] | 4 => [] | 5 => [] | _ => []
@[go_sem] def hl33 : Hints := fun _ => []
attribute [go_sem] Go.Proofs.Try.results33
theorem c33 (p q : Pr) : CallOK Go.Proofs.Try.prog 33 [.d (.agg p.cells), .d (.agg q.cells)] [] [.dead, .dead] (.d (.bool (decide (p = q)))) [] := by
  refine call_of tysOK mixed Go.Proofs.Try.func33 (by kernel_rfl) rfl (np := [false, false]) (by kernel_rfl) hr33 hl33 (by simp [Go.Proofs.Try.ntmps33]) ?_
  simp -implicitDefEqProofs only [go_sem, reduceCtorEq, Pr.cells]
  refine way_ndec (fun h1 => ?_) (fun h1 => ?_)
  · simp -implicitDefEqProofs only [go_sem, reduceCtorEq]
    have : ¬ p = q := fun e => h1 (by rw [e])
    simp [this]
  · simp -implicitDefEqProofs only [go_sem, reduceCtorEq]
    refine way_ndec (fun h2 => ?_) (fun h2 => ?_)
    · simp -implicitDefEqProofs only [go_sem, reduceCtorEq]
      have : ¬ p = q := fun e => h2 (by rw [e])
      simp [this]
    · simp -implicitDefEqProofs only [go_sem, reduceCtorEq]
      have : p = q := by cases p; cases q; simp_all
      simp [this]
theorem k33 {h : Heap} {tb : Nat} {K : OK} {args : List V} {ls : List Nat} (p q : Pr) (hg : toDs h args = some ([.agg [.str p.key, .str p.val], .agg [.str q.key, .str q.val]], ls))
    (hk : K (.d (.bool (decide (p = q)))) []) : callVC Go.Proofs.Try.prog h tb 33 args K :=
  call_free hg (c33 p q) rfl (.inr ⟨.d (.bool _), flatH_nil⟩) hk
end Go.Rx
