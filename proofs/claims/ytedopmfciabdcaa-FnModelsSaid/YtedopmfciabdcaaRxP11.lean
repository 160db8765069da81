/-
  Contracts of functions of the program, each for all data of the shape that it names.
-/
import Derived.Test.YtedopmfciabdcaaRxP4
namespace Go.Rx
open Go
attribute [local irreducible] Req Way WayG Sel
set_option linter.unusedSimpArgs false
set_option linter.unusedVariables false
@[go_sem] def tysC : Tys
  | 3 => some ⟨1, 8, .int .i64, [.d (.int .i64 0)]⟩
  | 4 => some ⟨1, 1, .bool, [.d (.bool false)]⟩
  | 5 => some ⟨1, 1, .int .u8, [.d (.int .u8 0)]⟩
  | 9 => some ⟨1, 16, .str, [.d (.str [])]⟩
  | 25 => some ⟨1, 24, .slice 49, [.nils 2]⟩
  | 44 => some ⟨1, 24, .slice 5, [.nils 1]⟩
  | 49 => some ⟨2, 32, .struct [(0, 9), (1, 9)], [.d (.str []), .d (.str [])]⟩
  | 65 => some ⟨1, 8, .ptr, [.d .nilp]⟩
  | 73 => some ⟨3, 40, .struct [(0, 44), (1, 3), (2, 3)], [.nils 1, .d (.int .i64 0), .d (.int .i64 0)]⟩
  | 75 => some ⟨1, 24, .slice 9, [.nils 1]⟩
  | _ => none
theorem tysCOK : TyOK Go.Proofs.Try.prog tysC := by
  refine tyOK_of fun t i h => ?_
  unfold tysC at h
  split at h <;> first | (cases h; kernel_rfl) | cases h

def bys (l : List UInt8) : List (List D) := l.map byteCell
theorem bys_length {l : List UInt8} : (bys l).length = l.length := by simp [bys]
theorem lget_bys {l : List UInt8} {i : Nat} {p : UInt8} (h : l[i]? = some p) : lget (bys l) i = [.int .u8 p.toNat] := by
  simp [lget, bys, List.getD, h, byteCell]

/-! the cursor that drawn things are drawn from -/
structure Cur where
  b : List UInt8
  i : Nat
  h : Int
def Cur.cells (c : Cur) : List V := [.d (.sl (bys c.b)), .d (.int .i64 c.i), .d (.int .i64 c.h)]
def Cur.ok (c : Cur) : Prop := c.i ≤ c.b.length ∧ c.b.length ≤ 1048576

/-! f52 l01Byte -/
def hNext (h : Int) : Int := IntKind.i64.wrap (IntKind.i64.wrap (h * 6364136223846793005) + 1442695040888963407)
def and255 (x : Int) : Int := IntKind.i64.wrap (((BitVec.ofInt 64 x &&& BitVec.ofInt 64 255).toNat : Nat) : Int)
theorem and255_range {x : Int} : 0 ≤ and255 x ∧ and255 x ≤ 255 := by
  have h : (BitVec.ofInt 64 x &&& BitVec.ofInt 64 255).toNat ≤ 255 := by
    rw [BitVec.toNat_and]
    exact Nat.le_trans Nat.and_le_right (by decide)
  unfold and255
  rw [wrap_int (by omega) (by omega)]
  omega
def byteX (h : Int) : Int := and255 (IntKind.i64.wrap (((BitVec.ofInt 64 ((hNext h).fdiv (2 ^ min (Int.toNat 33) 64)) ^^^ BitVec.ofInt 64 ((hNext h).fdiv (2 ^ min (Int.toNat 45) 64))).toNat : Nat) : Int))
def Cur.byte (c : Cur) : Int × Cur := match c.b[c.i]? with
  | some p => (and255 (IntKind.i64.wrap (byteX c.h + IntKind.i64.wrap (p.toNat : Int))), ⟨c.b, c.i + 1, hNext c.h⟩)
  | none => (byteX c.h, ⟨c.b, c.i, hNext c.h⟩)
theorem Cur.byte_range {c : Cur} : 0 ≤ c.byte.1 ∧ c.byte.1 ≤ 255 := by
  unfold Cur.byte
  split
  · exact and255_range
  · exact and255_range
theorem Cur.byte_ok {c : Cur} (h : c.ok) : c.byte.2.ok := by
  unfold Cur.byte
  split
  · rename_i p hp
    obtain ⟨h1, _⟩ := List.getElem?_eq_some_iff.1 hp
    exact ⟨h1, h.2⟩
  · exact h

@[go_sem] def hr52 : Hints
  | 0 => [0] | 1 => [0] | 2 => [0] | 3 => [0, 3] | 4 => [0, 3] | 5 => [0, 3] | 6 => [0, 3] | _ => []
@[go_sem] def hl52 : Hints := fun _ => []
attribute [go_sem] Go.Proofs.Try.results52
set_option maxHeartbeats 1000000 in
theorem c52 (c : Cur) (hc : c.ok) : CallOK Go.Proofs.Try.prog 52 [.ref 0 0] [(0, .box c.cells)] [.ref 0 0] (.d (.int .i64 c.byte.1)) [(0, .box c.byte.2.cells)] := by
  obtain ⟨hc1, hc2⟩ := hc
  refine call_of tysCOK mixed Go.Proofs.Try.func52 (by kernel_rfl) rfl (np := [true]) (by kernel_rfl) hr52 hl52 (by simp [Go.Proofs.Try.ntmps52]) ?_
  simp -implicitDefEqProofs only [go_sem, reduceCtorEq, Cur.cells]
  repeat ((first | refine req (by first | assumption | omega | exact commP_of (by kernel_rfl)) ?_); simp -implicitDefEqProofs only [go_sem, reduceCtorEq, bys_length])
  refine way_dec (fun h1 => ?_) (fun h1 => ?_)
  · obtain ⟨p, hp⟩ := some_at h1
    simp -implicitDefEqProofs only [go_sem, reduceCtorEq, bys_length, lget_bys hp]
    repeat ((first | refine req (by first | assumption | omega | exact commP_of (by kernel_rfl)) ?_); simp -implicitDefEqProofs only [go_sem, reduceCtorEq, bys_length, lget_bys hp])
    rw [wrap_succ (by simp only [LEN]; omega)]
    simp only [Cur.byte, hp]
    rfl
  · simp -implicitDefEqProofs only [go_sem, reduceCtorEq, bys_length]
    repeat ((first | refine req (by first | assumption | omega | exact commP_of (by kernel_rfl)) ?_); simp -implicitDefEqProofs only [go_sem, reduceCtorEq, bys_length])
    have hp : c.b[c.i]? = none := by simp; omega
    simp only [Cur.byte, hp]
    rfl
theorem k52 {h : Heap} {tb : Nat} {K : OK} {k : Nat} (c : Cur) (hh : h k = some (.box c.cells)) (hro : refO h k = [k]) (hc : c.ok)
    (hk : K (.d (.int .i64 c.byte.1)) [(k, none), (k, some (.box c.byte.2.cells))]) : callVC Go.Proofs.Try.prog h tb 52 [.ref k 0] K :=
  call_box_ false hh hro rfl toDs_nil rfl (c52 c hc) rfl rfl (.inr (.inl rfl)) hk

/-! f51 l01Below -/
def Cur.below (c : Cur) (n : Int) : Int × Cur :=
  if n ≤ 0 then (0, c) else if n ≤ 256 then (c.byte.1.tmod n, c.byte.2) else
  ((c.byte.1 * 16777216 + c.byte.2.byte.1 * 65536 + c.byte.2.byte.2.byte.1 * 256 + c.byte.2.byte.2.byte.2.byte.1).tmod n, c.byte.2.byte.2.byte.2.byte.2)
theorem Cur.below_ok {c : Cur} {n : Int} (h : c.ok) : (c.below n).2.ok := by
  unfold Cur.below
  split
  · exact h
  · split
    · exact Cur.byte_ok h
    · exact Cur.byte_ok (Cur.byte_ok (Cur.byte_ok (Cur.byte_ok h)))
theorem Cur.below_range {c : Cur} {n : Int} (h : 0 < n) : 0 ≤ (c.below n).1 ∧ (c.below n).1 < n := by
  unfold Cur.below
  rw [if_neg (by omega)]
  have h1 := Cur.byte_range (c := c)
  have h2 := Cur.byte_range (c := c.byte.2)
  have h3 := Cur.byte_range (c := c.byte.2.byte.2)
  have h4 := Cur.byte_range (c := c.byte.2.byte.2.byte.2)
  split
  · exact ⟨Int.tmod_nonneg _ h1.1, Int.tmod_lt_of_pos _ h⟩
  · exact ⟨Int.tmod_nonneg _ (by omega), Int.tmod_lt_of_pos _ h⟩
@[go_sem] def hr51 : Hints
  | 0 => [0, 1] | 1 => [0, 1] | 2 => [0] | 3 => [0, 1] | 4 => [0, 1] | 5 => [0, 1] | 6 => [0, 1, 5] | 7 => [0, 1, 5, 6] | 8 => [0, 1, 5, 6, 7] | 9 => [0, 1, 5, 6, 7, 8] | _ => []
@[go_sem] def hl51 : Hints := fun _ => []
attribute [go_sem] Go.Proofs.Try.results51
set_option maxHeartbeats 1000000 in
theorem c51 (c : Cur) (n : Int) (hc : c.ok) : CallOK Go.Proofs.Try.prog 51 [.ref 0 0, .d (.int .i64 n)] [(0, .box c.cells)] [.ref 0 0, .dead] (.d (.int .i64 (c.below n).1)) [(0, .box (c.below n).2.cells)] := by
  refine call_of tysCOK mixed Go.Proofs.Try.func51 (by kernel_rfl) rfl (np := [true, false]) (by kernel_rfl) hr51 hl51 (by simp [Go.Proofs.Try.ntmps51]) ?_
  simp -implicitDefEqProofs only [go_sem, reduceCtorEq, Cur.cells]
  refine way_dec (fun h1 => ?_) (fun h1 => ?_)
  · simp -implicitDefEqProofs only [go_sem, reduceCtorEq, Cur.cells]
    simp only [Cur.below, if_pos h1]
  · simp -implicitDefEqProofs only [go_sem, reduceCtorEq, Cur.cells]
    refine way_dec (fun h2 => ?_) (fun h2 => ?_)
    · simp -implicitDefEqProofs only [go_sem, reduceCtorEq, Cur.cells]
      repeat ((first | refine k52 c rfl rfl hc ?_ | refine req (by first | assumption | omega) ?_); simp -implicitDefEqProofs only [go_sem, reduceCtorEq, Cur.cells])
      simp only [Cur.below, if_neg h1, if_pos h2]
    · have g1 := Cur.byte_range (c := c)
      have g2 := Cur.byte_range (c := c.byte.2)
      have g3 := Cur.byte_range (c := c.byte.2.byte.2)
      have g4 := Cur.byte_range (c := c.byte.2.byte.2.byte.2)
      have o1 := Cur.byte_ok hc
      have o2 := Cur.byte_ok o1
      have o3 := Cur.byte_ok o2
      simp -implicitDefEqProofs only [go_sem, reduceCtorEq, Cur.cells]
      repeat ((first | refine k52 c.byte.2.byte.2.byte.2 rfl rfl o3 ?_ | refine k52 c.byte.2.byte.2 rfl rfl o2 ?_ | refine k52 c.byte.2 rfl rfl o1 ?_ | refine k52 c rfl rfl hc ?_ | refine req (by first | assumption | omega) ?_); simp -implicitDefEqProofs only [go_sem, reduceCtorEq, Cur.cells])
      simp only [Cur.below, if_neg h1, if_neg h2]
      rw [wrap_int (n := c.byte.1 * 16777216) (by omega) (by omega), wrap_int (n := c.byte.2.byte.1 * 65536) (by omega) (by omega), wrap_int (n := c.byte.2.byte.2.byte.1 * 256) (by omega) (by omega),
        wrap_int (n := c.byte.1 * 16777216 + c.byte.2.byte.1 * 65536) (by omega) (by omega), wrap_int (n := c.byte.1 * 16777216 + c.byte.2.byte.1 * 65536 + c.byte.2.byte.2.byte.1 * 256) (by omega) (by omega),
        wrap_int (n := c.byte.1 * 16777216 + c.byte.2.byte.1 * 65536 + c.byte.2.byte.2.byte.1 * 256 + c.byte.2.byte.2.byte.2.byte.1) (by omega) (by omega)]
theorem k51 {h : Heap} {tb : Nat} {K : OK} {k : Nat} {rest : List V} (c : Cur) (n : Int) (hh : h k = some (.box c.cells)) (hro : refO h k = [k]) (hr : toDs h rest = some ([.int .i64 n], [])) (hc : c.ok)
    (hk : K (.d (.int .i64 (c.below n).1)) [(k, none), (k, some (.box (c.below n).2.cells))]) : callVC Go.Proofs.Try.prog h tb 51 (.ref k 0 :: rest) K :=
  call_box_ false hh hro rfl hr rfl (c51 c n hc) rfl rfl (.inr (.inl rfl)) hk

/-! f50 l01Pick -/
def strs (l : List (List UInt8)) : List (List D) := l.map fun s => [.str s]
theorem strs_length {l : List (List UInt8)} : (strs l).length = l.length := by simp [strs]
theorem lget_strs {l : List (List UInt8)} {i : Nat} {p : List UInt8} (h : l[i]? = some p) : lget (strs l) i = [.str p] := by
  simp [lget, strs, List.getD, h]
def Cur.pick (c : Cur) (l : List (List UInt8)) : List UInt8 × Cur := (l.getD (c.below l.length).1.toNat [], (c.below l.length).2)
theorem Cur.pick_ok {c : Cur} {l : List (List UInt8)} (h : c.ok) : (c.pick l).2.ok := Cur.below_ok h
theorem Cur.pick_mem {c : Cur} {l : List (List UInt8)} (h : l ≠ []) : (c.pick l).1 ∈ l := by
  have hl : 0 < l.length := List.length_pos_iff.2 h
  have := Cur.below_range (c := c) (n := l.length) (by omega)
  unfold Cur.pick
  simp only
  rw [List.getD_eq_getElem?_getD, List.getElem?_eq_getElem (by omega), Option.getD_some]
  exact List.getElem_mem _
@[go_sem] def hr50 : Hints
  | 0 => [0, 1] | 1 => [0, 1] | _ => []
@[go_sem] def hl50 : Hints := fun _ => []
attribute [go_sem] Go.Proofs.Try.results50
set_option maxHeartbeats 1000000 in
theorem c50 (c : Cur) (l : List (List UInt8)) (hl : l ≠ []) (hc : c.ok) : CallOK Go.Proofs.Try.prog 50 [.ref 0 0, .d (.sl (strs l))] [(0, .box c.cells)] [.ref 0 0, .dead] (.d (.str (c.pick l).1)) [(0, .box (c.pick l).2.cells)] := by
  have hl' : 0 < l.length := List.length_pos_iff.2 hl
  have hr := Cur.below_range (c := c) (n := l.length) (by omega)
  obtain ⟨p, hp⟩ := some_at (l := l) (i := (c.below l.length).1.toNat) (by omega)
  have hpk : (c.pick l).1 = p := by unfold Cur.pick; simp [List.getD, hp]
  refine call_of tysCOK mixed Go.Proofs.Try.func50 (by kernel_rfl) rfl (np := [true, false]) (by kernel_rfl) hr50 hl50 (by simp [Go.Proofs.Try.ntmps50]) ?_
  simp -implicitDefEqProofs only [go_sem, reduceCtorEq, Cur.cells, strs_length]
  repeat ((first | refine k51 c _ rfl rfl rfl hc ?_ | refine req (by first | assumption | omega | exact hr.1 | exact hr.2) ?_); simp -implicitDefEqProofs only [go_sem, reduceCtorEq, Cur.cells, strs_length, lget_strs hp])
  rw [hpk]
  rfl
/-- The list is one of ours: it is spent. -/
theorem k50 {h : Heap} {tb : Nat} {K : OK} {k j : Nat} {len : Nat} {ys : List (List D)} (c : Cur) (l : List (List UInt8)) (hh : h k = some (.box c.cells)) (hro : refO h k = [k]) (ho : h j = some (.arr 1 ys)) (hy : (ys.drop 0).take len = strs l) (hkj : (k == j) = false) (hl : l ≠ []) (hc : c.ok)
    (hk : K (.d (.str (c.pick l).1)) [(j, none), (k, none), (k, some (.box (c.pick l).2.cells))]) : callVC Go.Proofs.Try.prog h tb 50 [.ref k 0, .own j 0 len] K :=
  call_box_ (xs := [.sl (strs l)]) (ls := [j]) true hh hro rfl (by rw [toDs_own ho toDs_nil, hy]) (by simp at hkj ⊢; exact fun e => hkj e) (c50 c l hl hc) rfl rfl (.inl rfl) hk

/-! f46 l05Key -/
def keyL : List (List UInt8) := [[97], [98], [99], [100], [101], [102], [103], [104], [107], [109], [112], [113], [115], [120], [122], []]
@[go_sem] def hr46 : Hints
  | 0 => [0] | 1 => [0] | _ => []
@[go_sem] def hl46 : Hints := fun _ => []
attribute [go_sem] Go.Proofs.Try.results46
set_option maxHeartbeats 2000000 in
theorem c46 (c : Cur) (hc : c.ok) : CallOK Go.Proofs.Try.prog 46 [.ref 0 0] [(0, .box c.cells)] [.ref 0 0] (.d (.str (c.pick keyL).1)) [(0, .box (c.pick keyL).2.cells)] := by
  refine call_of tysCOK mixed Go.Proofs.Try.func46 (by kernel_rfl) rfl (np := [true]) (by kernel_rfl) hr46 hl46 (by simp [Go.Proofs.Try.ntmps46]) ?_
  simp -implicitDefEqProofs only [go_sem, reduceCtorEq, Cur.cells]
  repeat ((first | refine k50 c keyL rfl rfl rfl rfl rfl (by decide) hc ?_ | refine req (by first | assumption | omega | (simp [D.one]; done)) ?_); simp -implicitDefEqProofs only [go_sem, reduceCtorEq, Cur.cells])
theorem k46 {h : Heap} {tb : Nat} {K : OK} {k : Nat} (c : Cur) (hh : h k = some (.box c.cells)) (hro : refO h k = [k]) (hc : c.ok)
    (hk : K (.d (.str (c.pick keyL).1)) [(k, none), (k, some (.box (c.pick keyL).2.cells))]) : callVC Go.Proofs.Try.prog h tb 46 [.ref k 0] K :=
  call_box_ false hh hro rfl toDs_nil rfl (c46 c hc) rfl rfl (.inr (.inl rfl)) hk

/-! f45 l01New -/
def hRound (h : Int) (p : UInt8) : Int := IntKind.i64.wrap (((BitVec.ofInt 64 (IntKind.i64.wrap (IntKind.i64.wrap (IntKind.i64.wrap (h * 131) + IntKind.i64.wrap (p.toNat : Int)) + 7)) &&& BitVec.ofInt 64 1073741823).toNat : Nat) : Int)
def hNew (code : List UInt8) : Int := (code.take 4000).foldl hRound (IntKind.i64.wrap (38301 + code.length))
def Cur.new (code : List UInt8) : Cur := ⟨code, 0, hNew code⟩
theorem Cur.new_ok {code : List UInt8} (h : code.length ≤ 1048576) : (Cur.new code).ok := ⟨Nat.zero_le _, h⟩
theorem hNew_out {code : List UInt8} {i : Nat} {h : Int} (h2 : i ≤ code.length) (h3 : i ≤ 4000) (h4 : h = (code.take i).foldl hRound (IntKind.i64.wrap (38301 + code.length))) (ho : i = code.length ∨ i = 4000) : h = hNew code := by
  rw [h4, hNew]
  congr 1
  rcases ho with rfl | rfl
  · rw [List.take_length, List.take_of_length_le (by omega)]
  · rfl
@[go_sem] def hr45 : Hints
  | 0 => [0] | 1 => [0] | 2 => [0, 3] | 3 => [0, 3, 4] | 4 => [0, 3, 4] | 5 => [0, 3, 4] | 6 => [0, 3] | _ => []
@[go_sem] def hl45 : Hints
  | 3 => [0, 3, 4] | _ => []
attribute [go_sem] Go.Proofs.Try.results45
set_option maxHeartbeats 1000000 in
theorem c45 (code : List UInt8) (hl : code.length ≤ 1048576) : CallOK Go.Proofs.Try.prog 45 [.d (.sl (bys code))] [] [.dead] (.ref 0 0) [(0, .box (Cur.new code).cells)] := by
  refine call_of tysCOK mixed Go.Proofs.Try.func45 (by kernel_rfl) rfl (np := [false]) (by kernel_rfl) hr45 hl45 (by simp [Go.Proofs.Try.ntmps45]) ?_
  simp -implicitDefEqProofs only [go_sem, reduceCtorEq, bys_length]
  refine loop_data (α := Nat × Int) (fun x => ⟨[(0, .d (.sl (bys code))), (3, .d (.int .i64 x.2)), (4, .d (.int .i64 x.1))], []⟩)
    (fun x => x.1 ≤ code.length ∧ x.1 ≤ 4000 ∧ x.2 = (code.take x.1).foldl hRound (IntKind.i64.wrap (38301 + code.length))) (fun x => 4000 - x.1) (0, IntKind.i64.wrap (38301 + code.length)) rfl ⟨Nat.zero_le _, Nat.zero_le _, rfl⟩ ?_
  rintro ⟨i, h⟩ ⟨h2, h3, h4⟩
  simp only at h2 h3 h4
  simp -implicitDefEqProofs only [go_sem, reduceCtorEq, bys_length]
  refine wayT_dec (fun h5 => ?_) (fun h5 => ?_)
  · simp -implicitDefEqProofs only [go_sem, reduceCtorEq, bys_length]
    refine way_dec (fun h6 => ?_) (fun h6 => ?_)
    · obtain ⟨p, hp⟩ := some_at h5
      simp -implicitDefEqProofs only [go_sem, reduceCtorEq, bys_length, lget_bys hp]
      repeat ((first | refine req (by first | omega | exact commP_of (by kernel_rfl)) ?_); simp -implicitDefEqProofs only [go_sem, reduceCtorEq, bys_length, lget_bys hp])
      rw [wrap_succ (by simp only [LEN]; omega)]
      refine next_data (i + 1, hRound h p) rfl ⟨?_, ?_, ?_⟩ ?_
      · simp only; omega
      · simp only; omega
      · simp only; rw [take_snoc hp, List.foldl_append, ← h4, List.foldl_cons, List.foldl_nil]
      · simp only; omega
    · simp -implicitDefEqProofs only [go_sem, reduceCtorEq, bys_length]
      repeat ((first | refine req (by first | assumption | omega | rfl | exact commP_of (by kernel_rfl)) ?_); simp -implicitDefEqProofs only [go_sem, reduceCtorEq, bys_length])
      rw [hNew_out h2 h3 h4 (.inr (by omega))]
      rfl
  · simp -implicitDefEqProofs only [go_sem, reduceCtorEq, bys_length]
    repeat ((first | refine req (by first | assumption | omega | rfl | exact commP_of (by kernel_rfl)) ?_); simp -implicitDefEqProofs only [go_sem, reduceCtorEq, bys_length])
    rw [hNew_out h2 h3 h4 (.inl (by omega))]
    rfl
theorem k45 {h : Heap} {tb : Nat} {K : OK} {args : List V} (code : List UInt8) (hg : toDs h args = some ([.sl (bys code)], [])) (hl : code.length ≤ 1048576)
    (hk : K (.ref tb 0) [(tb, some (.box (Cur.new code).cells))]) : callVC Go.Proofs.Try.prog h tb 45 args K :=
  call_free hg (c45 code hl) rfl (.inl rfl) hk
end Go.Rx
