/-
  Contracts of functions of the program, each for all data of the shape that it names.
-/
import Derived.Test.YtedopmfciabdcaaRxP9
namespace Go.Rx
open Go
attribute [local irreducible] Req Way WayG Sel
set_option linter.unusedSimpArgs false
set_option linter.unusedVariables false

/-! f49 slices.Grow of nil -/
@[go_sem] def hr49 : Hints
  | 0 => [0, 1] | 1 => [0, 1] | 2 => [0, 1] | 3 => [0, 1] | 4 => [0, 1] | 5 => [0, 1] | 6 => [0] | _ => []
@[go_sem] def hl49 : Hints := fun _ => []
attribute [go_sem] Go.Proofs.Try.results49
theorem c49 (n : Nat) (hn : n ≤ 4294967296) : CallOK Go.Proofs.Try.prog 49 [.nils, .d (.int .i64 n)] [] [.dead, .dead] (.own 0 0 0) [(0, .arr 2 (prs (List.replicate n ⟨[], []⟩)))] := by
  refine call_of tysMOK mixed Go.Proofs.Try.func49 (by kernel_rfl) rfl (np := [false, false]) (by kernel_rfl) hr49 hl49 (by simp [Go.Proofs.Try.ntmps49]) ?_
  simp -implicitDefEqProofs only [go_sem, reduceCtorEq]
  refine way_dec (fun h1 => absurd h1 (by omega)) (fun _ => ?_)
  simp -implicitDefEqProofs only [go_sem, reduceCtorEq]
  repeat ((first | refine req (by first | assumption | omega) ?_); simp -implicitDefEqProofs only [go_sem, reduceCtorEq])
  have e1 : IntKind.i64.wrap ((n : Int) - IntKind.i64.wrap (0 - 0)) = n := by
    have : IntKind.i64.wrap (0 - 0) = 0 := rfl
    rw [this, wrap_int (by omega) (by omega)]; omega
  simp -implicitDefEqProofs only [go_sem, reduceCtorEq, e1]
  refine way_dec (fun h2 => ?_) (fun h2 => ?_)
  · simp -implicitDefEqProofs only [go_sem, reduceCtorEq]
    repeat ((first | refine req (by first | assumption | omega | rfl) ?_); simp -implicitDefEqProofs only [go_sem, reduceCtorEq])
    rw [e1, Int.toNat_natCast, prs_zero]
    rfl
  · simp -implicitDefEqProofs only [go_sem, reduceCtorEq]
    have : n = 0 := by omega
    subst this
    rfl
theorem k49 {h : Heap} {tb : Nat} {K : OK} {rest : List V} {ls : List Nat} (n : Nat) (hg : toDs h rest = some ([.int .i64 n], ls)) (hn : n ≤ 4294967296)
    (hk : K (.own tb 0 0) [(tb, some (.arr 2 (prs (List.replicate n ⟨[], []⟩))))]) : callVC Go.Proofs.Try.prog h tb 49 (.nils :: rest) K :=
  call_nils hg (c49 n hn) rfl (.inr ⟨.own _ _ _, flatH_cons flat_prs flatH_nil⟩) hk

/-! f44 slices.Concat -/
def pps (ps : List (List Pr)) : List (List D) := ps.map fun l => [.sl (prs l)]
theorem pps_length {ps : List (List Pr)} : (pps ps).length = ps.length := by simp [pps]
theorem lget_pps {ps : List (List Pr)} {i : Nat} {l : List Pr} (h : ps[i]? = some l) : lget (pps ps) i = [.sl (prs l)] := by
  simp [lget, pps, List.getD, h]
theorem flatten_snoc {ps : List (List Pr)} {i : Nat} {l : List Pr} (h : ps[i]? = some l) : (ps.take (i + 1)).flatten = (ps.take i).flatten ++ l := by
  rw [take_snoc h]; simp
theorem flatten_in {ps : List (List Pr)} {i : Nat} {l : List Pr} (h : ps[i]? = some l) : (ps.take i).flatten.length + l.length ≤ ps.flatten.length := by
  have h1 := flatten_snoc h
  have h2 : ps.flatten = (ps.take (i + 1)).flatten ++ (ps.drop (i + 1)).flatten := by rw [← List.flatten_append, List.take_append_drop]
  rw [h2, h1]; simp

theorem prs_take' {l : List Pr} : (prs l).take l.length = prs l := by rw [← prs_length, List.take_length]
theorem prs_take_app {m l : List Pr} {k : Nat} : (prs m).take k ++ prs l = prs (m.take k ++ l) := by simp [prs, List.map_take]

@[go_sem] def hr44 : Hints
  | 0 => [0] | 1 => [0] | 2 => [0, 3] | 3 => [0, 3, 9, 10, 11] | 4 => [0, 3, 9, 10, 11] | 5 => [0, 3, 5, 9, 10, 11] | 6 => [0, 3, 9, 10, 11] | 7 => [0, 3, 9, 10, 11] | 8 => [0, 3, 9, 10, 11] | 9 => [0, 3] | 10 => [0, 6] | 11 => [6, 25, 26, 27] | 12 => [6, 25, 26, 27] | 13 => [6, 8, 25, 26, 27] | 14 => [6, 25, 26, 27] | 15 => [6] | _ => []
@[go_sem] def hl44 : Hints
  | 11 => [6, 25, 26, 27] | 3 => [0, 3, 9, 10, 11] | _ => []
attribute [go_sem] Go.Proofs.Try.results44
set_option maxHeartbeats 1000000 in
theorem c44 (ps : List (List Pr)) (hp : ps.length ≤ 1048576) (hl : ps.flatten.length ≤ 4194304) : CallOK Go.Proofs.Try.prog 44 [.d (.sl (pps ps))] [] [.dead] (.own 0 0 ps.flatten.length) [(0, .arr 2 (prs ps.flatten))] := by
  refine call_of tysMOK mixed Go.Proofs.Try.func44 (by kernel_rfl) rfl (np := [false]) (by kernel_rfl) hr44 hl44 (by simp [Go.Proofs.Try.ntmps44]) ?_
  simp -implicitDefEqProofs only [go_sem, reduceCtorEq, pps_length]
  refine loop_data (α := Nat) (fun i => ⟨[(0, .d (.sl (pps ps))), (3, .d (.int .i64 (((ps.take i).flatten.length : Nat) : Int))), (9, .d (.sl (pps ps))), (10, .d (.int .i64 ps.length)), (11, .d (.int .i64 i))], []⟩)
    (fun i => i ≤ ps.length) (fun i => ps.length - i) 0 rfl (Nat.zero_le _) ?_
  rintro i h2
  simp -implicitDefEqProofs only [go_sem, reduceCtorEq, pps_length]
  refine way_dec (fun h5 => ?_) (fun h5 => ?_)
  · obtain ⟨l, hlp⟩ := some_at h5
    have hf := flatten_in hlp
    have hadd : IntKind.i64.wrap ((((ps.take i).flatten.length : Nat) : Int) + (l.length : Int)) = (((ps.take (i + 1)).flatten.length : Nat) : Int) := by
      rw [i64_lit (by omega), flatten_snoc hlp, List.length_append]
    simp -implicitDefEqProofs only [go_sem, reduceCtorEq, pps_length, lget_pps hlp, prs_length, hadd]
    repeat ((first | refine req (by first | assumption | omega) ?_ | refine way_dec (fun h => absurd h (by omega)) (fun _ => ?_)); simp -implicitDefEqProofs only [go_sem, reduceCtorEq, pps_length, lget_pps hlp, prs_length, hadd])
    rw [wrap_succ (by simp only [LEN]; omega)]
    exact next_data (i + 1) rfl (by omega) (by omega)
  · have hi : i = ps.length := by omega
    subst hi
    simp -implicitDefEqProofs only [go_sem, reduceCtorEq, List.take_length]
    refine k49 ps.flatten.length rfl (by omega) ?_
    simp -implicitDefEqProofs only [go_sem, reduceCtorEq, pps_length]
    refine loop_data (α := Nat × List Pr) (fun x => ⟨[(6, .own 0 0 (ps.take x.1).flatten.length), (25, .d (.sl (pps ps))), (26, .d (.int .i64 ps.length)), (27, .d (.int .i64 x.1))], [(0, some (.arr 2 (prs x.2)))]⟩)
      (fun x => x.1 ≤ ps.length ∧ (x.2 = (ps.take x.1).flatten ∨ x.1 = 0 ∧ x.2 = List.replicate ps.flatten.length ⟨[], []⟩)) (fun x => ps.length - x.1) (0, List.replicate ps.flatten.length ⟨[], []⟩) rfl ⟨Nat.zero_le _, .inr ⟨rfl, rfl⟩⟩ ?_
    rintro ⟨i, m⟩ ⟨h3, h4⟩
    simp only at h3 h4
    have hm : m.take (ps.take i).flatten.length = (ps.take i).flatten := by
      rcases h4 with rfl | ⟨rfl, _⟩
      · exact List.take_length
      · simp
    simp -implicitDefEqProofs only [go_sem, reduceCtorEq, pps_length]
    refine way_dec (fun h5 => ?_) (fun h5 => ?_)
    · obtain ⟨l, hlp⟩ := some_at h5
      have hf := flatten_in hlp
      simp -implicitDefEqProofs only [go_sem, reduceCtorEq, pps_length, lget_pps hlp, prs_length]
      repeat ((first | refine req (by first | assumption | omega | exact ⟨by omega, prs_two, prs_one⟩) ?_); simp -implicitDefEqProofs only [go_sem, reduceCtorEq, pps_length, lget_pps hlp, prs_length, prs_take_app, hm])
      rw [wrap_succ (by simp only [LEN]; omega)]
      refine next_data (i + 1, (ps.take i).flatten ++ l) ?_ ⟨?_, .inl ?_⟩ ?_
      · simp only [flatten_snoc hlp, List.length_append]
      · simp only; omega
      · simp only; rw [flatten_snoc hlp]
      · simp only; omega
    · have hi : i = ps.length := by omega
      subst hi
      simp -implicitDefEqProofs only [go_sem, reduceCtorEq]
      rw [List.take_length]
      have : m = ps.flatten := by
        rcases h4 with h4 | ⟨h4, rfl⟩
        · rw [h4, List.take_length]
        · have : ps = [] := List.eq_nil_of_length_eq_zero h4
          subst this; rfl
      rw [this]
theorem k44 {h : Heap} {tb : Nat} {K : OK} {args : List V} {ls : List Nat} {xs : List (List D)} (ps : List (List Pr)) (hg : toDs h args = some ([.sl xs], ls)) (hx : xs = pps ps) (hp : ps.length ≤ 1048576) (hl : ps.flatten.length ≤ 4194304)
    (hk : K (.own tb 0 ps.flatten.length) [(tb, some (.arr 2 (prs ps.flatten)))]) : callVC Go.Proofs.Try.prog h tb 44 args K := by
  subst hx; exact call_free hg (c44 ps hp hl) rfl (.inr ⟨.own _ _ _, flatH_cons flat_prs flatH_nil⟩) hk

/-! f26 impl.ModelPut -/
@[go_sem] def hr26 : Hints
  | 0 => [0, 1, 2] | 1 => [0, 1, 2] | 2 => [0, 1, 2, 7, 8] | 3 => [1, 2, 7, 8, 13, 14, 15] | 4 => [1, 2, 7, 8, 13, 14, 15] | 5 => [1, 2, 7, 8, 10, 13, 14, 15] | 6 => [1, 2, 7, 8, 10, 13, 14, 15] | 7 => [1, 2, 7, 8, 10, 13, 14, 15] | 8 => [1, 2, 7, 8, 10, 13, 14, 15] | 9 => [1, 2, 7, 8, 13, 14, 15] | 10 => [1, 2, 7, 8] | _ => []
@[go_sem] def hl26 : Hints
  | 3 => [1, 2, 7, 8, 13, 14, 15] | _ => []
attribute [go_sem] Go.Proofs.Try.results26
set_option maxHeartbeats 1000000 in
theorem c26 (l : List Pr) (key val : List UInt8) (hl : l.length ≤ 1048576) : CallOK Go.Proofs.Try.prog 26 [.d (.sl (prs l)), .d (.str key), .d (.str val)] [] [.dead, .dead, .dead]
    (.own 0 0 (mput l key val).length) [(0, .arr 2 (prs (mput l key val)))] := by
  refine call_of tysMOK mixed Go.Proofs.Try.func26 (by kernel_rfl) rfl (np := [false, false, false]) (by kernel_rfl) hr26 hl26 (by simp [Go.Proofs.Try.ntmps26]) ?_
  simp -implicitDefEqProofs only [go_sem, reduceCtorEq, prs_length]
  repeat ((first | refine req (by first | assumption | omega | (simp; done)) ?_); simp -implicitDefEqProofs only [go_sem, reduceCtorEq, prs_length])
  refine loop_data (α := Nat) (fun i => ⟨[(1, .d (.str key)), (2, .d (.str val)), (7, .own 0 0 (lesser (l.take i) key).length), (8, .own 1 0 (greater (l.take i) key).length), (13, .d (.sl (prs l))), (14, .d (.int .i64 l.length)), (15, .d (.int .i64 i))],
      [(0, some (.arr 2 (prs (lesser (l.take i) key)))), (1, some (.arr 2 (prs (greater (l.take i) key))))]⟩)
    (fun i => i ≤ l.length) (fun i => l.length - i) 0 rfl (Nat.zero_le _) ?_
  rintro i h2
  have hk1 := lesser_len (l := l.take i) (key := key)
  have hk2 := greater_len (l := l.take i) (key := key)
  simp only [List.length_take] at hk1 hk2
  simp -implicitDefEqProofs only [go_sem, reduceCtorEq, prs_length]
  refine way_dec (fun h5 => ?_) (fun h5 => ?_)
  · obtain ⟨p, hp⟩ := some_at h5
    simp -implicitDefEqProofs only [go_sem, reduceCtorEq, prs_length, lget_prs hp]
    repeat ((first | refine req (by first | assumption | omega) ?_); simp -implicitDefEqProofs only [go_sem, reduceCtorEq, prs_length, lget_prs hp])
    refine way (fun h6 => ?_) (fun h6 => ?_)
    · simp -implicitDefEqProofs only [go_sem, reduceCtorEq, prs_length]
      repeat ((first | refine req (by first | assumption | omega | (simp [D.one]; omega) | (simp [D.one]; done)) ?_); simp -implicitDefEqProofs only [go_sem, reduceCtorEq, prs_length, prs_snoc'])
      rw [wrap_succ (by simp only [LEN]; omega)]
      refine next_data (i + 1) ?_ (by omega) (by omega)
      rw [lesser_snoc hp, if_pos h6, greater_snoc hp, if_neg (by simp [bLess_not_both h6])]
      simp
    · simp -implicitDefEqProofs only [go_sem, reduceCtorEq, prs_length]
      refine way (fun h7 => ?_) (fun h7 => ?_)
      · simp -implicitDefEqProofs only [go_sem, reduceCtorEq, prs_length]
        repeat ((first | refine req (by first | assumption | omega | (simp [D.one]; omega) | (simp [D.one]; done)) ?_); simp -implicitDefEqProofs only [go_sem, reduceCtorEq, prs_length, prs_snoc'])
        rw [wrap_succ (by simp only [LEN]; omega)]
        refine next_data (i + 1) ?_ (by omega) (by omega)
        rw [lesser_snoc hp, if_neg (by simp [h6]), greater_snoc hp, if_pos h7]
        simp
      · simp -implicitDefEqProofs only [go_sem, reduceCtorEq, prs_length]
        rw [wrap_succ (by simp only [LEN]; omega)]
        refine next_data (i + 1) ?_ (by omega) (by omega)
        rw [lesser_snoc hp, if_neg (by simp [h6]), greater_snoc hp, if_neg (by simp [h7])]
        simp
  · have hi : i = l.length := by omega
    subst hi
    have hm : [lesser l key, [⟨key, val⟩], greater l key].flatten = mput l key val := by simp [mput]
    have hml : (mput l key val).length ≤ 4194304 := by
      have h1 := lesser_len (l := l) (key := key)
      have h2 := greater_len (l := l) (key := key)
      simp [mput]; omega
    simp -implicitDefEqProofs only [go_sem, reduceCtorEq, prs_length, List.take_length]
    repeat ((first | refine req (by first | assumption | omega | (simp [D.one]; done)) ?_ | refine k44 [lesser l key, [⟨key, val⟩], greater l key] rfl rfl (by simp) (by rw [hm]; exact hml) ?_); simp -implicitDefEqProofs only [go_sem, reduceCtorEq, prs_length, List.take_length, prs_take'])
    rw [hm]
theorem k26 {h : Heap} {tb : Nat} {K : OK} {args : List V} {ls : List Nat} {xs : List (List D)} (l : List Pr) (key val : List UInt8) (hg : toDs h args = some ([.sl xs, .str key, .str val], ls)) (hx : xs = prs l) (hl : l.length ≤ 1048576)
    (hk : K (.own tb 0 (mput l key val).length) [(tb, some (.arr 2 (prs (mput l key val))))]) : callVC Go.Proofs.Try.prog h tb 26 args K := by
  subst hx; exact call_free hg (c26 l key val hl) rfl (.inr ⟨.own _ _ _, flatH_cons flat_prs flatH_nil⟩) hk

/-! f7 FnExactModelPut -/
theorem mput_len {l : List Pr} {key val : List UInt8} (h : l.length < 1048576) : (mput l key val).length ≤ 2097152 := by
  have h1 := lesser_len (l := l) (key := key)
  have h2 := greater_len (l := l) (key := key)
  simp [mput]; omega
theorem bLess_irr {a : List UInt8} : bLess a a = false := by
  cases h : bLess a a with
  | false => rfl
  | true => rw [bLess_not_both h] at h; cases h
theorem part_len {l : List Pr} {key : List UInt8} : (lesser l key).length + (greater l key).length ≤ l.length := by
  induction l with
  | nil => simp [lesser, greater]
  | cons p l ih =>
    simp only [lesser, greater, List.filter_cons] at ih ⊢
    cases h1 : bLess p.key key with
    | true => simp [bLess_not_both h1]; omega
    | false => cases h2 : bLess key p.key <;> simp <;> omega
theorem mput_len' {l : List Pr} {key val : List UInt8} : (mput l key val).length ≤ l.length + 1 := by
  have := part_len (l := l) (key := key)
  simp [mput]; omega
@[go_sem] def hr7 : Hints
  | 0 => [0, 1, 2] | 1 => [0, 1, 2] | 2 => [] | 3 => [0, 1, 2] | 4 => [] | 5 => [0, 1, 2] | 6 => [0, 1, 2, 7] | 7 => [0, 1, 2, 7] | 8 => [] | 9 => [0, 1, 2] | 10 => [0, 1, 2, 8] | 11 => [0, 1, 2, 8, 9] | 12 => [0, 1, 2, 8, 9, 10] | 13 => [] | 14 => [0, 1, 2, 8, 9, 10] | 15 => [] | 16 => [0, 1, 2, 8, 9, 10] | 17 => [0, 1, 2, 8, 9, 10, 11] | 18 => [0, 1, 2, 8, 10, 11] | 19 => [] | 20 => [0, 1, 2, 8, 10] | 21 => [0, 1, 2, 8, 10, 12] | 22 => [0, 1, 2, 8, 10, 12] | 23 => [0, 1, 2, 8, 10, 12, 13] | 24 => [0, 1, 2, 8, 10, 12, 13] | 25 => [] | 26 => [0, 1, 2, 8, 10, 12, 13] | 27 => [] | 28 => [0, 1, 2, 8, 10, 12] | 29 => [8, 10, 12, 14] | 30 => [] | 31 => [10, 12] | 32 => [10, 12, 13] | 33 => [12, 13] | 34 => [] | 35 => [12, 13] | 36 => [] | 37 => [] | _ => []
@[go_sem] def hl7 : Hints := fun _ => []
attribute [go_sem] Go.Proofs.Try.results7
set_option maxHeartbeats 4000000 in
theorem c7 (l : List Pr) (key val : List UInt8) (hl : l.length ≤ LEN) (hp : ∀ p ∈ l, p.ok) : CallOK Go.Proofs.Try.prog 7 [.d (.sl (prs l)), .d (.str key), .d (.str val)] [] [.dead, .dead, .dead] (.d (.bool true)) [] := by
  refine call_of tysMOK mixed Go.Proofs.Try.func7 (by kernel_rfl) rfl (np := [false, false, false]) (by kernel_rfl) hr7 hl7 (by simp [Go.Proofs.Try.ntmps7]) ?_
  simp -implicitDefEqProofs only [go_sem, reduceCtorEq]
  refine way_dec (fun h0 => ?_) (fun h0 => ?_)
  · simp -implicitDefEqProofs only [go_sem, reduceCtorEq]
  · simp -implicitDefEqProofs only [go_sem, reduceCtorEq]
    refine way_dec (fun h00 => ?_) (fun h00 => ?_)
    · simp -implicitDefEqProofs only [go_sem, reduceCtorEq]
    · simp -implicitDefEqProofs only [go_sem, reduceCtorEq]
      refine k9 _ _ rfl hl ?_
      simp -implicitDefEqProofs only [go_sem, reduceCtorEq]
      refine way_dec (fun h1 => ?_) (fun h1 => ?_)
      · simp -implicitDefEqProofs only [go_sem, reduceCtorEq]
      · have hs := szPairS_ok hp hl (by omega) (by omega) h1
        have hn : l.length ≤ 1048576 := by omega
        have hml := mput_len' (l := l) (key := key) (val := val)
        have hmL : (mput l key val).length ≤ LEN := by simp only [LEN]; omega
        simp -implicitDefEqProofs only [go_sem, reduceCtorEq]
        repeat ((first | refine k11 l rfl hn ?_ | refine k25 l key val rfl (prs_whole rfl) hn ?_ | refine k26 l key val rfl (prs_whole rfl) hn ?_ | refine k13 (mput l key val) (mput l key val) rfl (prs_whole rfl) (prs_whole rfl) hmL ?_ | refine k13 l l rfl (prs_whole rfl) (prs_whole rfl) hl ?_ | refine k23 l l.length 1 rfl rfl rfl (Nat.le_refl _) (by omega) (by decide) ?_ | refine k23 (mput l key val) (mput l key val).length 1 rfl rfl rfl (Nat.le_refl _) (by omega) (by decide) ?_ | refine k24 1 (mput l key val).length rfl read_mark (by omega) (by decide) ?_ | refine wayF_dec (fun _ => ?_) (fun h => absurd h (by omega)) | refine way_dec (fun h => absurd h (by omega)) (fun _ => ?_) | refine req (by first | assumption | omega) ?_); simp -implicitDefEqProofs only [go_sem, reduceCtorEq, decide_true])
end Go.Rx
