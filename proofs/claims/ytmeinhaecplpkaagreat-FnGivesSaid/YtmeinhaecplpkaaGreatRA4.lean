/-
  Part A4: lemmas on an evaluator over plain data of the model's code, plain laws on lists and numbers, or contracts of functions of the program; each lemma names its conditions.
-/
import Derived.Test.YtmeinhaecplpkaaGreatRA3
import Derived.Test.YtmeinhaecplpkaaGreatRP1
import Derived.Test.YtmeinhaecplpkaaGreatRE6

set_option linter.unusedSimpArgs false
set_option linter.unusedVariables false
namespace Go.Rx
open Go
attribute [local irreducible] Req Way WayG Sel callVC CallOK seqVC cVC loopVC nextK
theorem nodeV_none:nodeV none= .tup [.d (.agg [.bool false,.sl [],.sl [],.sl []]),.d (.bool false)]:=rfl
theorem nodeV_some {n:GNode}:nodeV (some n)= .tup [.d (.agg [.bool n.fLeaf,.sl (strs n.fKeys),.sl (strs n.fVals),.sl (ints n.fKids)]),.d (.bool true)]:=rfl
@[go_sem] def hr151:Hints
 |0=> [0,1,2]|1=> [0,1,2,6,7]|2=> [0]|3=> [0,1,2,6]|4=> [0,2,6]|5=> [0,2,6]|6=> [0,6]|7=> [0,6,70,71,72]|8=> [0,6,70,71,72]|9=> [0,6,8,9,70,71,72]|10=> [0,6,70,71,72]|11=> [0,2,6]|12=> [0,2,6,10]|13=> [0,2,6,10,100,101,102]|14=> [0,2,6,10,100,101,102]|15=> [0,2,6,10,11,12,100,101,102]|16=> [0,2,6,10,11,12,13,100,101,102]|17=> [0,2,6,10,11,13,100,101,102]|18=> [0,2,6,10,11,13,100,101,102]|19=> [0,2,6,10,100,101,102]|_=> []
@[go_sem] def hl151:Hints
 |7=> [0,6,70,71,72]|13=> [0,2,6,10,100,101,102]|_=> []
attribute [go_sem] Go.Proofs.Tryz.results151
end Go.Rx
namespace Go.Rx
open Go
attribute [local irreducible] Req Way WayG Sel callVC CallOK seqVC cVC loopVC nextK
def alBox (a:Al):List (Nat×AObj):=[(0,.box [.own 1 0 a.pairs.length,.own 2 0 a.pages.length,.own 3 0 a.deeps.length,.d (.bool a.bad),.d (.bool a.loose)]),(1,.arr 2 (GPairS a.pairs)),(2,.arr 1 (ints a.pages)),(3,.arr 1 (ints a.deeps))]
theorem alBox_eq {a:Al}:alBox a=[(0,.box [.own 1 0 a.pairs.length,.own 2 0 a.pages.length,.own 3 0 a.deeps.length,.d (.bool a.bad),.d (.bool a.loose)]),(1,.arr 2 (GPairS a.pairs)),(2,.arr 1 (ints a.pages)),(3,.arr 1 (ints a.deeps))]:=rfl
@[go_sem] def hr175:Hints
 |0=> [0,1,2,3,4,5,6]|1=> [1,2,3,4,5,6,7]|2=> [1,2,3,4,5,6,7,14,15]|3=> [6]|4=> [1,2,3,4,5,6,7,14]|5=> [2,3,4,5,6,7,14]|6=> [2,3,4,5,6,7,14,16]|7=> [2,3,4,5,6,7,14,16]|8=> [2,3,4,5,6,7,14,16]|9=> [2,3,4,5,6,7,14,16,17]|10=> [2,3,4,5,6,7,14,16,17]|11=> [2,3,4,5,6,7,14,16,17]|12=> [2,3,4,5,6,7,14,16,17]|13=> [2,3,4,5,6,7,14,16,17]|14=> [2,3,4,5,6,7,14,16,17,18]|15=> [2,3,4,5,6,7,14,16,17]|16=> [2,3,4,5,6,7,14,16,18]|17=> [2,3,4,5,6,7,14,16,18,19]|18=> [2,3,4,5,6,7,14,16,18,19,20]|19=> [2,3,4,5,6,7,14,16,18]|20=> [2,3,4,5,6,7,14,16,18,19]|21=> [2,3,4,5,6,7,14,16,18,19,20]|22=> [2,6,14]|23=> [2,6]|_=> []
@[go_sem] def hl175:Hints
 |6=> [2,3,4,5,6,7,14,16]|_=> []
attribute [go_sem] Go.Proofs.Tryz.results175
set_option maxRecDepth 100000 in
set_option maxHeartbeats 12000000 in
theorem cs_walk (d : GDisk) (h1 : d.fPages.length ≤ 1048576) (h2 : d.fLate.length ≤ 1048576) (hsm : ∀ p, (readPage d p).length ≤ 1048576) : ∀ (f : Nat) (page : Int) (low high : List UInt8) (has : Bool) (a : Al), f ≤ 8 → roomS f a →
    CallOK Go.Proofs.Tryz.prog 175 [.d (.agg d.cells), .d (.int .i64 page), .d (.int .i64 (8 - (f : Int))), .d (.str low), .d (.str high), .d (.bool has), .ref 0 0] (alBox a) [.dead, .dead, .dead, .dead, .dead, .dead, .ref 0 0] (.tup []) (alBox (walkS d f page low high has a)) := by
  intro f
  induction f with
  | zero =>
    intro page low high has a hf hroom
    have d8 : decide ((8 : Int) ≤ 8 - ((0 : Nat) : Int)) = true := rfl
    refine call_of tysZOK mixedZ Go.Proofs.Tryz.func175 (by kernel_rfl) rfl (np := [false, false, false, false, false, false, true]) (by kernel_rfl) hr175 hl175 (by simp [Go.Proofs.Tryz.ntmps175]) ?_
    simp -implicitDefEqProofs only [go_sem, GDisk.cells, alBox_eq]
    refine ks_ReadPage d page (by omega) (by omega) rfl ?_
    simp -implicitDefEqProofs only [go_sem]
    refine ks_ReadNode (readPage d page) (by have := hsm page; omega) rfl ?_
    rw [walkS]
    cases hn : readNode (readPage d page) with
    | none =>
      simp only [nodeV_none]
      simp -implicitDefEqProofs only [go_sem, alBox_eq, d8]
      repeat ((first | refine rq ?_ | fail); simp -implicitDefEqProofs only [go_sem, alBox_eq, d8])
    | some n =>
      simp only [nodeV_some]
      simp -implicitDefEqProofs only [go_sem, alBox_eq, d8]
      repeat ((first | refine rq ?_ | fail); simp -implicitDefEqProofs only [go_sem, alBox_eq, d8])
  | succ f ih =>
    intro page low high has a hf hroom
    obtain ⟨r1, r2, r3⟩ := hroom
    have hpow : 4 ^ (f + 1) = 4 ^ f * 4 := Nat.pow_succ ..
    have hp1 : 1 ≤ 4 ^ f := Nat.one_le_pow _ _ (by omega)
    have d8 : decide ((8 : Int) ≤ 8 - ((f + 1 : Nat) : Int)) = false := decide_eq_false (by omega)
    refine call_of tysZOK mixedZ Go.Proofs.Tryz.func175 (by kernel_rfl) rfl (np := [false, false, false, false, false, false, true]) (by kernel_rfl) hr175 hl175 (by simp [Go.Proofs.Tryz.ntmps175]) ?_
    simp -implicitDefEqProofs only [go_sem, GDisk.cells, alBox_eq]
    refine ks_ReadPage d page (by omega) (by omega) rfl ?_
    simp -implicitDefEqProofs only [go_sem]
    refine ks_ReadNode (readPage d page) (by have := hsm page; omega) rfl ?_
    rw [walkS]
    cases hn : readNode (readPage d page) with
    | none =>
      simp only [nodeV_none]
      simp -implicitDefEqProofs only [go_sem, alBox_eq, d8]
      repeat ((first | refine rq ?_ | fail); simp -implicitDefEqProofs only [go_sem, alBox_eq, d8])
    | some n =>
      obtain ⟨hok, _⟩ := readNode_iff.1 hn
      have hk4 := hok.2.1
      simp only [nodeV_some]
      simp -implicitDefEqProofs only [go_sem, alBox_eq, d8]
      refine ks_In a.pages page (by simp only [LEN]; omega) (ls := [2]) (by simp -implicitDefEqProofs only [go_sem]; first | done | rfl) ?_
      by_cases hp : page ∈ a.pages
      · have dp := decide_eq_true hp
        rw [if_pos (.inl hp)]
        simp -implicitDefEqProofs only [go_sem, alBox_eq, dp]
        repeat ((first | refine rq ?_ | fail); simp -implicitDefEqProofs only [go_sem, alBox_eq, dp])
      · have dp := decide_eq_false hp
        cases hb : a.bad
        · rw [if_neg (by simp [hp])]
          cases hl : n.fLeaf
          · have hiff := (nodeOk_branch hl).1 hok
            simp -implicitDefEqProofs only [go_sem, dp]
            repeat ((first | refine rq ?_ | fail); simp -implicitDefEqProofs only [go_sem, dp])
            have e9 : IntKind.i64.wrap (8 - ((f + 1 : Nat) : Int) + 1) = 8 - (f : Int) := by rw [wrap_int (by omega) (by omega)]; omega
            simp only [Bool.false_eq_true, if_false]
            refine loop_data (α := Nat × Al) (fun x => ⟨[(2, .d (.int .i64 (8 - ((f + 1 : Nat) : Int)))), (3, .d (.str low)), (4, .d (.str high)), (5, .d (.bool has)), (6, .ref 0 0), (7, .ref 4 0), (14, .ref 5 0), (16, .d (.int .i64 x.1))],
                [(0, some (.box [.own 1 0 x.2.pairs.length, .own 2 0 x.2.pages.length, .own 3 0 x.2.deeps.length, .d (.bool x.2.bad), .d (.bool x.2.loose)])),
                 (1, some (.arr 2 (GPairS x.2.pairs))), (2, some (.arr 1 (ints x.2.pages))), (3, some (.arr 1 (ints x.2.deeps))), (4, some (.box [.d (.sl (strs d.fPages)), .d (.sl (GPutS d.fLate))])),
                 (5, some (.box [.d (.bool false), .d (.sl (strs n.fKeys)), .d (.sl (strs n.fVals)), .d (.sl (ints n.fKids))]))]⟩)
              (fun x => x.1 ≤ n.fKeys.length ∧ kidsS (walkS d f) low high has ((n.fKeys.zip n.fKids).drop x.1) x.2 = kidsS (walkS d f) low high has (n.fKeys.zip n.fKids) ⟨a.pairs, a.pages ++ [page], a.deeps, false, a.loose⟩ ∧
                x.2.pages.length ≤ a.pages.length + 1 + x.1 * (2 * 4 ^ f - 1) ∧ x.2.pairs.length ≤ a.pairs.length + x.1 * (2 * 4 ^ f - 1) ∧ x.2.deeps.length ≤ a.deeps.length + x.1 * (2 * 4 ^ f - 1))
              (fun x => n.fKeys.length - x.1) (0, ⟨a.pairs, a.pages ++ [page], a.deeps, false, a.loose⟩) (by simp) ⟨Nat.zero_le _, by rw [List.drop_zero], by simp, by simp, by simp⟩ ?_
            rintro ⟨i, u⟩ ⟨i1, i2, i4, i5, i6⟩
            simp only at i1 i2 i4 i5 i6
            simp -implicitDefEqProofs only [go_sem]
            (first | (refine way_dec (fun h5 => ?_) (fun h5 => ?_)) | (refine way_ndec (fun h5 => ?_) (fun h5 => ?_)) | (refine wayT_dec (fun h5 => ?_) (fun h5 => ?_)) | (refine wayF_dec (fun h5 => ?_) (fun h5 => ?_)) | (refine wayT_ndec (fun h5 => ?_) (fun h5 => ?_)) | (refine wayF_ndec (fun h5 => ?_) (fun h5 => ?_)) | (refine way_not (fun h5 => ?_) (fun h5 => ?_)) | (refine way (fun h5 => ?_) (fun h5 => ?_)) | (refine wayT (fun h5 => ?_) (fun h5 => ?_)) | (refine wayF (fun h5 => ?_) (fun h5 => ?_)))
            · obtain ⟨k, hk⟩ := some_at (l := n.fKeys) (i := i) (by omega)
              obtain ⟨c, hc⟩ := some_at (l := n.fKids) (i := i) (by omega)
              rw [drop_cons (zip_at hk hc), kidsS] at i2
              have hi3 : i * (2 * 4 ^ f - 1) ≤ 3 * (2 * 4 ^ f - 1) := Nat.mul_le_mul_right _ (by omega)
              have hsm1 : (i + 1) * (2 * 4 ^ f - 1) = i * (2 * 4 ^ f - 1) + (2 * 4 ^ f - 1) := Nat.succ_mul ..
              cases hlk : bLess low k
              · have elo : lowS low k = low := by simp [lowS, hlk]
                have wsucc : IntKind.i64.wrap ((i : Int) + 1) = ((i + 1 : Nat) : Int) := wrap_succ (by simp only [LEN]; omega)
                by_cases hl2 : ((i + 1 : Nat) : Int) < (n.fKeys.length : Int)
                · have hlast : decide (((i + 1 : Nat) : Int) < (n.fKeys.length : Int)) = true := decide_eq_true hl2
                  obtain ⟨k2, hk2⟩ := some_at (l := n.fKeys) (i := i + 1) (by omega)
                  obtain ⟨c2, hc2⟩ := some_at (l := n.fKids) (i := i + 1) (by omega)
                  have hrest := drop_cons (zip_at hk2 hc2)
                  cases hhas : has
                  · subst hhas
                    have ehi : highS high false ((n.fKeys.zip n.fKids).drop (i + 1)) = k2 := by rw [hrest]; simp [highS, capS]
                    have emo : moreS high false ((n.fKeys.zip n.fKids).drop (i + 1)) = true := by rw [hrest]; simp [moreS, capS]
                    rw [elo, ehi, emo] at i2
                    have g1 := walk_pages (d := d) (f := f) (page := c) (low := low) (high := k2) (has := true) (a := u)
                    have g2 := walk_pairs (d := d) (f := f) (page := c) (low := low) (high := k2) (has := true) (a := u)
                    have g3 := walk_deeps (d := d) (f := f) (page := c) (low := low) (high := k2) (has := true) (a := u)
                    simp -implicitDefEqProofs only [go_sem, lget_strs hk, lget_ints hc, e9, GDisk.cells, hlk, hlast, lget_strs hk2, wsucc]
                    repeat ((first | refine rq ?_ | refine call_boxL false (n := 0) (vs := [.agg [.d (.sl (strs d.fPages)), .d (.sl (GPutS d.fLate))], .d (.int .i64 c), .d (.int .i64 (8 - (f : Int))), .d (.str low), .d (.str k2), .d (.bool true)]) (xs := [.agg d.cells, .int .i64 c, .int .i64 (8 - (f : Int)), .str low, .str k2, .bool true]) (ih c (low) (k2) (true) u (by omega) ⟨by omega, by omega, by omega⟩) rfl rfl rfl rfl rfl rfl rfl rfl (.inr (.inl rfl)) ?_ rfl | fail); simp -implicitDefEqProofs only [go_sem, lget_strs hk, lget_ints hc, e9, alBox_eq, hlk, hlast, lget_strs hk2, wsucc])
                    generalize hv : walkS d f c (low) (k2) (true) u = v at i2 g1 g2 g3 ⊢
                    try rw [wrap_succ (by simp only [LEN]; omega)]
                    exact next_data (i + 1, v) (by first | rfl | rw [wsucc]) ⟨by simp only; omega, i2, by simp only; omega, by simp only; omega, by simp only; omega⟩ (by simp only; omega)
                  · subst hhas
                    cases hcap : bLess k2 high
                    · have ehi : highS high true ((n.fKeys.zip n.fKids).drop (i + 1)) = high := by rw [hrest]; simp [highS, capS, hcap]
                      have emo : moreS high true ((n.fKeys.zip n.fKids).drop (i + 1)) = true := by rw [hrest]; simp [moreS, capS, hcap]
                      rw [elo, ehi, emo] at i2
                      have g1 := walk_pages (d := d) (f := f) (page := c) (low := low) (high := high) (has := true) (a := u)
                      have g2 := walk_pairs (d := d) (f := f) (page := c) (low := low) (high := high) (has := true) (a := u)
                      have g3 := walk_deeps (d := d) (f := f) (page := c) (low := low) (high := high) (has := true) (a := u)
                      simp -implicitDefEqProofs only [go_sem, lget_strs hk, lget_ints hc, e9, GDisk.cells, hlk, hlast, hcap, lget_strs hk2, wsucc]
                      repeat ((first | refine rq ?_ | refine call_boxL false (n := 0) (vs := [.agg [.d (.sl (strs d.fPages)), .d (.sl (GPutS d.fLate))], .d (.int .i64 c), .d (.int .i64 (8 - (f : Int))), .d (.str low), .d (.str high), .d (.bool true)]) (xs := [.agg d.cells, .int .i64 c, .int .i64 (8 - (f : Int)), .str low, .str high, .bool true]) (ih c (low) (high) (true) u (by omega) ⟨by omega, by omega, by omega⟩) rfl rfl rfl rfl rfl rfl rfl rfl (.inr (.inl rfl)) ?_ rfl | fail); simp -implicitDefEqProofs only [go_sem, lget_strs hk, lget_ints hc, e9, alBox_eq, hlk, hlast, hcap, lget_strs hk2, wsucc])
                      generalize hv : walkS d f c (low) (high) (true) u = v at i2 g1 g2 g3 ⊢
                      try rw [wrap_succ (by simp only [LEN]; omega)]
                      exact next_data (i + 1, v) (by first | rfl | rw [wsucc]) ⟨by simp only; omega, i2, by simp only; omega, by simp only; omega, by simp only; omega⟩ (by simp only; omega)
                    · have ehi : highS high true ((n.fKeys.zip n.fKids).drop (i + 1)) = k2 := by rw [hrest]; simp [highS, capS, hcap]
                      have emo : moreS high true ((n.fKeys.zip n.fKids).drop (i + 1)) = true := by rw [hrest]; simp [moreS, capS, hcap]
                      rw [elo, ehi, emo] at i2
                      have g1 := walk_pages (d := d) (f := f) (page := c) (low := low) (high := k2) (has := true) (a := u)
                      have g2 := walk_pairs (d := d) (f := f) (page := c) (low := low) (high := k2) (has := true) (a := u)
                      have g3 := walk_deeps (d := d) (f := f) (page := c) (low := low) (high := k2) (has := true) (a := u)
                      simp -implicitDefEqProofs only [go_sem, lget_strs hk, lget_ints hc, e9, GDisk.cells, hlk, hlast, hcap, lget_strs hk2, wsucc]
                      repeat ((first | refine rq ?_ | refine call_boxL false (n := 0) (vs := [.agg [.d (.sl (strs d.fPages)), .d (.sl (GPutS d.fLate))], .d (.int .i64 c), .d (.int .i64 (8 - (f : Int))), .d (.str low), .d (.str k2), .d (.bool true)]) (xs := [.agg d.cells, .int .i64 c, .int .i64 (8 - (f : Int)), .str low, .str k2, .bool true]) (ih c (low) (k2) (true) u (by omega) ⟨by omega, by omega, by omega⟩) rfl rfl rfl rfl rfl rfl rfl rfl (.inr (.inl rfl)) ?_ rfl | fail); simp -implicitDefEqProofs only [go_sem, lget_strs hk, lget_ints hc, e9, alBox_eq, hlk, hlast, hcap, lget_strs hk2, wsucc])
                      generalize hv : walkS d f c (low) (k2) (true) u = v at i2 g1 g2 g3 ⊢
                      try rw [wrap_succ (by simp only [LEN]; omega)]
                      exact next_data (i + 1, v) (by first | rfl | rw [wsucc]) ⟨by simp only; omega, i2, by simp only; omega, by simp only; omega, by simp only; omega⟩ (by simp only; omega)
                · have hlast : decide (((i + 1 : Nat) : Int) < (n.fKeys.length : Int)) = false := decide_eq_false hl2
                  have hrest : (n.fKeys.zip n.fKids).drop (i + 1) = [] := List.drop_eq_nil_of_le (by simp only [List.length_zip]; omega)
                  have ehi : highS high has ((n.fKeys.zip n.fKids).drop (i + 1)) = high := by rw [hrest]; simp [highS, capS]
                  have emo : moreS high has ((n.fKeys.zip n.fKids).drop (i + 1)) = has := by rw [hrest]; simp [moreS, capS]
                  rw [elo, ehi, emo] at i2
                  have g1 := walk_pages (d := d) (f := f) (page := c) (low := low) (high := high) (has := has) (a := u)
                  have g2 := walk_pairs (d := d) (f := f) (page := c) (low := low) (high := high) (has := has) (a := u)
                  have g3 := walk_deeps (d := d) (f := f) (page := c) (low := low) (high := high) (has := has) (a := u)
                  simp -implicitDefEqProofs only [go_sem, lget_strs hk, lget_ints hc, e9, GDisk.cells, hlk, hlast, wsucc]
                  repeat ((first | refine rq ?_ | refine call_boxL false (n := 0) (vs := [.agg [.d (.sl (strs d.fPages)), .d (.sl (GPutS d.fLate))], .d (.int .i64 c), .d (.int .i64 (8 - (f : Int))), .d (.str low), .d (.str high), .d (.bool has)]) (xs := [.agg d.cells, .int .i64 c, .int .i64 (8 - (f : Int)), .str low, .str high, .bool has]) (ih c (low) (high) (has) u (by omega) ⟨by omega, by omega, by omega⟩) rfl rfl rfl rfl rfl rfl rfl rfl (.inr (.inl rfl)) ?_ rfl | fail); simp -implicitDefEqProofs only [go_sem, lget_strs hk, lget_ints hc, e9, alBox_eq, hlk, hlast, wsucc])
                  generalize hv : walkS d f c (low) (high) (has) u = v at i2 g1 g2 g3 ⊢
                  try rw [wrap_succ (by simp only [LEN]; omega)]
                  exact next_data (i + 1, v) (by first | rfl | rw [wsucc]) ⟨by simp only; omega, i2, by simp only; omega, by simp only; omega, by simp only; omega⟩ (by simp only; omega)
              · have elo : lowS low k = k := by simp [lowS, hlk]
                have wsucc : IntKind.i64.wrap ((i : Int) + 1) = ((i + 1 : Nat) : Int) := wrap_succ (by simp only [LEN]; omega)
                by_cases hl2 : ((i + 1 : Nat) : Int) < (n.fKeys.length : Int)
                · have hlast : decide (((i + 1 : Nat) : Int) < (n.fKeys.length : Int)) = true := decide_eq_true hl2
                  obtain ⟨k2, hk2⟩ := some_at (l := n.fKeys) (i := i + 1) (by omega)
                  obtain ⟨c2, hc2⟩ := some_at (l := n.fKids) (i := i + 1) (by omega)
                  have hrest := drop_cons (zip_at hk2 hc2)
                  cases hhas : has
                  · subst hhas
                    have ehi : highS high false ((n.fKeys.zip n.fKids).drop (i + 1)) = k2 := by rw [hrest]; simp [highS, capS]
                    have emo : moreS high false ((n.fKeys.zip n.fKids).drop (i + 1)) = true := by rw [hrest]; simp [moreS, capS]
                    rw [elo, ehi, emo] at i2
                    have g1 := walk_pages (d := d) (f := f) (page := c) (low := k) (high := k2) (has := true) (a := u)
                    have g2 := walk_pairs (d := d) (f := f) (page := c) (low := k) (high := k2) (has := true) (a := u)
                    have g3 := walk_deeps (d := d) (f := f) (page := c) (low := k) (high := k2) (has := true) (a := u)
                    simp -implicitDefEqProofs only [go_sem, lget_strs hk, lget_ints hc, e9, GDisk.cells, hlk, hlast, lget_strs hk2, wsucc]
                    repeat ((first | refine rq ?_ | refine call_boxL false (n := 0) (vs := [.agg [.d (.sl (strs d.fPages)), .d (.sl (GPutS d.fLate))], .d (.int .i64 c), .d (.int .i64 (8 - (f : Int))), .d (.str k), .d (.str k2), .d (.bool true)]) (xs := [.agg d.cells, .int .i64 c, .int .i64 (8 - (f : Int)), .str k, .str k2, .bool true]) (ih c (k) (k2) (true) u (by omega) ⟨by omega, by omega, by omega⟩) rfl rfl rfl rfl rfl rfl rfl rfl (.inr (.inl rfl)) ?_ rfl | fail); simp -implicitDefEqProofs only [go_sem, lget_strs hk, lget_ints hc, e9, alBox_eq, hlk, hlast, lget_strs hk2, wsucc])
                    generalize hv : walkS d f c (k) (k2) (true) u = v at i2 g1 g2 g3 ⊢
                    try rw [wrap_succ (by simp only [LEN]; omega)]
                    exact next_data (i + 1, v) (by first | rfl | rw [wsucc]) ⟨by simp only; omega, i2, by simp only; omega, by simp only; omega, by simp only; omega⟩ (by simp only; omega)
                  · subst hhas
                    cases hcap : bLess k2 high
                    · have ehi : highS high true ((n.fKeys.zip n.fKids).drop (i + 1)) = high := by rw [hrest]; simp [highS, capS, hcap]
                      have emo : moreS high true ((n.fKeys.zip n.fKids).drop (i + 1)) = true := by rw [hrest]; simp [moreS, capS, hcap]
                      rw [elo, ehi, emo] at i2
                      have g1 := walk_pages (d := d) (f := f) (page := c) (low := k) (high := high) (has := true) (a := u)
                      have g2 := walk_pairs (d := d) (f := f) (page := c) (low := k) (high := high) (has := true) (a := u)
                      have g3 := walk_deeps (d := d) (f := f) (page := c) (low := k) (high := high) (has := true) (a := u)
                      simp -implicitDefEqProofs only [go_sem, lget_strs hk, lget_ints hc, e9, GDisk.cells, hlk, hlast, hcap, lget_strs hk2, wsucc]
                      repeat ((first | refine rq ?_ | refine call_boxL false (n := 0) (vs := [.agg [.d (.sl (strs d.fPages)), .d (.sl (GPutS d.fLate))], .d (.int .i64 c), .d (.int .i64 (8 - (f : Int))), .d (.str k), .d (.str high), .d (.bool true)]) (xs := [.agg d.cells, .int .i64 c, .int .i64 (8 - (f : Int)), .str k, .str high, .bool true]) (ih c (k) (high) (true) u (by omega) ⟨by omega, by omega, by omega⟩) rfl rfl rfl rfl rfl rfl rfl rfl (.inr (.inl rfl)) ?_ rfl | fail); simp -implicitDefEqProofs only [go_sem, lget_strs hk, lget_ints hc, e9, alBox_eq, hlk, hlast, hcap, lget_strs hk2, wsucc])
                      generalize hv : walkS d f c (k) (high) (true) u = v at i2 g1 g2 g3 ⊢
                      try rw [wrap_succ (by simp only [LEN]; omega)]
                      exact next_data (i + 1, v) (by first | rfl | rw [wsucc]) ⟨by simp only; omega, i2, by simp only; omega, by simp only; omega, by simp only; omega⟩ (by simp only; omega)
                    · have ehi : highS high true ((n.fKeys.zip n.fKids).drop (i + 1)) = k2 := by rw [hrest]; simp [highS, capS, hcap]
                      have emo : moreS high true ((n.fKeys.zip n.fKids).drop (i + 1)) = true := by rw [hrest]; simp [moreS, capS, hcap]
                      rw [elo, ehi, emo] at i2
                      have g1 := walk_pages (d := d) (f := f) (page := c) (low := k) (high := k2) (has := true) (a := u)
                      have g2 := walk_pairs (d := d) (f := f) (page := c) (low := k) (high := k2) (has := true) (a := u)
                      have g3 := walk_deeps (d := d) (f := f) (page := c) (low := k) (high := k2) (has := true) (a := u)
                      simp -implicitDefEqProofs only [go_sem, lget_strs hk, lget_ints hc, e9, GDisk.cells, hlk, hlast, hcap, lget_strs hk2, wsucc]
                      repeat ((first | refine rq ?_ | refine call_boxL false (n := 0) (vs := [.agg [.d (.sl (strs d.fPages)), .d (.sl (GPutS d.fLate))], .d (.int .i64 c), .d (.int .i64 (8 - (f : Int))), .d (.str k), .d (.str k2), .d (.bool true)]) (xs := [.agg d.cells, .int .i64 c, .int .i64 (8 - (f : Int)), .str k, .str k2, .bool true]) (ih c (k) (k2) (true) u (by omega) ⟨by omega, by omega, by omega⟩) rfl rfl rfl rfl rfl rfl rfl rfl (.inr (.inl rfl)) ?_ rfl | fail); simp -implicitDefEqProofs only [go_sem, lget_strs hk, lget_ints hc, e9, alBox_eq, hlk, hlast, hcap, lget_strs hk2, wsucc])
                      generalize hv : walkS d f c (k) (k2) (true) u = v at i2 g1 g2 g3 ⊢
                      try rw [wrap_succ (by simp only [LEN]; omega)]
                      exact next_data (i + 1, v) (by first | rfl | rw [wsucc]) ⟨by simp only; omega, i2, by simp only; omega, by simp only; omega, by simp only; omega⟩ (by simp only; omega)
                · have hlast : decide (((i + 1 : Nat) : Int) < (n.fKeys.length : Int)) = false := decide_eq_false hl2
                  have hrest : (n.fKeys.zip n.fKids).drop (i + 1) = [] := List.drop_eq_nil_of_le (by simp only [List.length_zip]; omega)
                  have ehi : highS high has ((n.fKeys.zip n.fKids).drop (i + 1)) = high := by rw [hrest]; simp [highS, capS]
                  have emo : moreS high has ((n.fKeys.zip n.fKids).drop (i + 1)) = has := by rw [hrest]; simp [moreS, capS]
                  rw [elo, ehi, emo] at i2
                  have g1 := walk_pages (d := d) (f := f) (page := c) (low := k) (high := high) (has := has) (a := u)
                  have g2 := walk_pairs (d := d) (f := f) (page := c) (low := k) (high := high) (has := has) (a := u)
                  have g3 := walk_deeps (d := d) (f := f) (page := c) (low := k) (high := high) (has := has) (a := u)
                  simp -implicitDefEqProofs only [go_sem, lget_strs hk, lget_ints hc, e9, GDisk.cells, hlk, hlast, wsucc]
                  repeat ((first | refine rq ?_ | refine call_boxL false (n := 0) (vs := [.agg [.d (.sl (strs d.fPages)), .d (.sl (GPutS d.fLate))], .d (.int .i64 c), .d (.int .i64 (8 - (f : Int))), .d (.str k), .d (.str high), .d (.bool has)]) (xs := [.agg d.cells, .int .i64 c, .int .i64 (8 - (f : Int)), .str k, .str high, .bool has]) (ih c (k) (high) (has) u (by omega) ⟨by omega, by omega, by omega⟩) rfl rfl rfl rfl rfl rfl rfl rfl (.inr (.inl rfl)) ?_ rfl | fail); simp -implicitDefEqProofs only [go_sem, lget_strs hk, lget_ints hc, e9, alBox_eq, hlk, hlast, wsucc])
                  generalize hv : walkS d f c (k) (high) (has) u = v at i2 g1 g2 g3 ⊢
                  try rw [wrap_succ (by simp only [LEN]; omega)]
                  exact next_data (i + 1, v) (by first | rfl | rw [wsucc]) ⟨by simp only; omega, i2, by simp only; omega, by simp only; omega, by simp only; omega⟩ (by simp only; omega)
            · simp -implicitDefEqProofs only [go_sem]
              obtain rfl : i = n.fKeys.length := by omega
              rw [List.drop_eq_nil_of_le (by simp only [List.length_zip]; omega), kidsS] at i2
              rw [← i2]
              rfl
          · have hiff := (nodeOk_leaf hl).1 hok
            simp -implicitDefEqProofs only [go_sem, dp]
            repeat ((first | refine rq ?_ | fail); simp -implicitDefEqProofs only [go_sem, dp])
            simp only [if_true]
            refine loop_data (α := Nat × Al) (fun x => ⟨[(2, .d (.int .i64 (8 - ((f + 1 : Nat) : Int)))), (3, .d (.str low)), (4, .d (.str high)), (5, .d (.bool has)), (6, .ref 0 0), (7, .ref 4 0), (14, .ref 5 0), (16, .d (.int .i64 x.1))],
                [(0, some (.box [.own 1 0 x.2.pairs.length, .own 2 0 x.2.pages.length, .own 3 0 x.2.deeps.length, .d (.bool x.2.bad), .d (.bool x.2.loose)])),
                 (1, some (.arr 2 (GPairS x.2.pairs))), (2, some (.arr 1 (ints x.2.pages))), (3, some (.arr 1 (ints x.2.deeps))), (4, some (.box [.d (.sl (strs d.fPages)), .d (.sl (GPutS d.fLate))])),
                 (5, some (.box [.d (.bool true), .d (.sl (strs n.fKeys)), .d (.sl (strs n.fVals)), .d (.sl (ints n.fKids))]))]⟩)
              (fun x => x.1 ≤ n.fKeys.length ∧ leafS low high has ((n.fKeys.zip n.fVals).drop x.1) x.2 = leafS low high has (n.fKeys.zip n.fVals) ⟨a.pairs, a.pages ++ [page], a.deeps, false, a.loose⟩ ∧
                x.2.pages.length = a.pages.length + 1 ∧ x.2.pairs.length ≤ a.pairs.length + x.1 ∧ x.2.deeps.length = a.deeps.length)
              (fun x => n.fKeys.length - x.1) (0, ⟨a.pairs, a.pages ++ [page], a.deeps, false, a.loose⟩) (by simp) ⟨Nat.zero_le _, by rw [List.drop_zero], by simp, by simp, by simp⟩ ?_
            rintro ⟨i, u⟩ ⟨i1, i2, i4, i5, i6⟩
            simp only at i1 i2 i4 i5 i6
            simp -implicitDefEqProofs only [go_sem]
            (first | (refine way_dec (fun h5 => ?_) (fun h5 => ?_)) | (refine way_ndec (fun h5 => ?_) (fun h5 => ?_)) | (refine wayT_dec (fun h5 => ?_) (fun h5 => ?_)) | (refine wayF_dec (fun h5 => ?_) (fun h5 => ?_)) | (refine wayT_ndec (fun h5 => ?_) (fun h5 => ?_)) | (refine wayF_ndec (fun h5 => ?_) (fun h5 => ?_)) | (refine way_not (fun h5 => ?_) (fun h5 => ?_)) | (refine way (fun h5 => ?_) (fun h5 => ?_)) | (refine wayT (fun h5 => ?_) (fun h5 => ?_)) | (refine wayF (fun h5 => ?_) (fun h5 => ?_)))
            · obtain ⟨k, hk⟩ := some_at (l := n.fKeys) (i := i) (by omega)
              obtain ⟨v, hv⟩ := some_at (l := n.fVals) (i := i) (by omega)
              rw [drop_cons (zip_at hk hv), leafS_cons] at i2
              cases hlk : bLess k low
              · cases hhas : has
                · simp -implicitDefEqProofs only [go_sem, lget_strs hk, lget_strs hv, hlk]
                  repeat ((first | refine rq ?_ | fail); simp -implicitDefEqProofs only [go_sem, lget_strs hk, lget_strs hv, hlk])
                  rw [wrap_succ (by simp only [LEN]; omega)]
                  subst hhas
                  exact next_data (i + 1, leaf1 low high false k v u) (by simp [leaf1, hlk]) ⟨by simp only; omega, i2, by simp only [leaf1]; omega, by simp only [leaf1, List.length_append, List.length_cons, List.length_nil]; omega, by simp only [leaf1]; omega⟩ (by simp only; omega)
                · subst hhas
                  cases hkh : bLess k high
                  · simp -implicitDefEqProofs only [go_sem, lget_strs hk, lget_strs hv, hlk, hkh]
                    repeat ((first | refine rq ?_ | fail); simp -implicitDefEqProofs only [go_sem, lget_strs hk, lget_strs hv, hlk, hkh])
                    rw [wrap_succ (by simp only [LEN]; omega)]
                    exact next_data (i + 1, leaf1 low high true k v u) (by simp [leaf1, hlk, hkh]) ⟨by simp only; omega, i2, by simp only [leaf1]; omega, by simp only [leaf1, List.length_append, List.length_cons, List.length_nil]; omega, by simp only [leaf1]; omega⟩ (by simp only; omega)
                  · simp -implicitDefEqProofs only [go_sem, lget_strs hk, lget_strs hv, hlk, hkh]
                    repeat ((first | refine rq ?_ | fail); simp -implicitDefEqProofs only [go_sem, lget_strs hk, lget_strs hv, hlk, hkh])
                    rw [wrap_succ (by simp only [LEN]; omega)]
                    exact next_data (i + 1, leaf1 low high true k v u) (by simp [leaf1, hlk, hkh]) ⟨by simp only; omega, i2, by simp only [leaf1]; omega, by simp only [leaf1, List.length_append, List.length_cons, List.length_nil]; omega, by simp only [leaf1]; omega⟩ (by simp only; omega)
              · simp -implicitDefEqProofs only [go_sem, lget_strs hk, lget_strs hv, hlk]
                repeat ((first | refine rq ?_ | fail); simp -implicitDefEqProofs only [go_sem, lget_strs hk, lget_strs hv, hlk])
                rw [wrap_succ (by simp only [LEN]; omega)]
                exact next_data (i + 1, leaf1 low high has k v u) (by simp [leaf1, hlk]) ⟨by simp only; omega, i2, by simp only [leaf1]; omega, by simp only [leaf1, List.length_append, List.length_cons, List.length_nil]; omega, by simp only [leaf1]; omega⟩ (by simp only; omega)
            · obtain rfl : i = n.fKeys.length := by omega
              rw [List.drop_eq_nil_of_le (by simp only [List.length_zip]; omega), leafS] at i2
              rw [← i2]
              simp -implicitDefEqProofs only [go_sem]
              repeat ((first | refine rq ?_ | fail); simp -implicitDefEqProofs only [go_sem])
              have e98 : (8 : Int) - ((f + 1 : Nat) : Int) = 7 - (f : Int) := by omega
              rw [e98]
              simp [alBox]
        · rw [if_pos (.inr rfl)]
          simp -implicitDefEqProofs only [go_sem, alBox_eq, dp]
          repeat ((first | refine rq ?_ | fail); simp -implicitDefEqProofs only [go_sem, alBox_eq, dp])
end Go.Rx
namespace Go.Rx
open Go
attribute [local irreducible] Req Way WayG Sel callVC CallOK seqVC cVC loopVC nextK
theorem roomS_new {f:Nat} (hf:f≤8):roomS f Al.new:=by
 have:4 ^ f≤4 ^ 8:=Nat.pow_le_pow_right (by omega) hf
 have e:(4:Nat) ^ 8=65536:=by decide
 refine ⟨?_,?_,?_⟩<;>simp only [Al.new,List.length_nil]<;>omega
@[go_sem] def hr78:Hints
 |0=> [0,1]|1=> [1,2]|2=> [1,5]|3=> [1,5]|4=> [5]|_=> []
@[go_sem] def hl78:Hints:=fun _=> []
attribute [go_sem] Go.Proofs.Tryz.results78
@[go_sem] def hr110:Hints
 |0=> [0,1]|1=> [1,2]|2=> [1,2,5]|3=> [1,2,5]|4=> [5]|_=> []
@[go_sem] def hl110:Hints:=fun _=> []
attribute [go_sem] Go.Proofs.Tryz.results110
set_option maxRecDepth 100000 in
set_option maxHeartbeats 2000000 in
theorem cs_look (d:GDisk) (root:Int) (h1:d.fPages.length≤1048576) (h2:d.fLate.length≤1048576) (hsm:∀p,(readPage d p).length≤1048576):
  CallOK Go.Proofs.Tryz.prog 110 [.d (.agg d.cells),.d (.int .i64 root)] [] [.dead,.dead] (.ref 0 0) (alBox (lookS d root)):=by
 refine call_of tysZOK mixedZ Go.Proofs.Tryz.func110 (by kernel_rfl) rfl (np:=[false,false]) (by kernel_rfl) hr110 hl110 (by simp [Go.Proofs.Tryz.ntmps110]) ?_
 simp -implicitDefEqProofs only [go_sem,GDisk.cells]
 by_cases hr:root=0
 ·have dr:=decide_eq_true hr
  simp -implicitDefEqProofs only [go_sem,dr]
  rw [lookS,if_pos hr]
  rfl
 ·have dr:=decide_eq_false hr
  simp -implicitDefEqProofs only [go_sem,dr]
  refine call_boxL false (n:=1) (vs:=[.agg [.d (.sl (strs d.fPages)),.d (.sl (GPutS d.fLate))],.d (.int .i64 root),.d (.int .i64 0),.d (.str []),.d (.str []),.d (.bool false)]) (xs:=[.agg d.cells,.int .i64 root,.int .i64 0,.str [],.str [],.bool false]) (cs_walk d h1 h2 hsm 8 root [] [] false Al.new (by omega) (roomS_new (by omega))) rfl rfl rfl rfl rfl rfl rfl rfl (.inr (.inl rfl)) ?_ rfl
  simp -implicitDefEqProofs only [go_sem,alBox_eq]
  rw [lookS,if_neg hr]
def pairsV:Option (List GPair)→V
 |none=> .tup [.d (.sl []),.d (.bool false)]
 |some l=> .tup [.d (.sl (GPairS l)),.d (.bool true)]
@[go_sem] def hr20:Hints
 |0=> [0,1]|1=> [1,2]|2=> [6]|3=> []|4=> [6]|_=> []
@[go_sem] def hl20:Hints:=fun _=> []
attribute [go_sem] Go.Proofs.Tryz.results20
@[go_sem] def hr88:Hints
 |0=> [0,1]|1=> [1,2]|2=> [6]|3=> []|4=> [6]|_=> []
@[go_sem] def hl88:Hints:=fun _=> []
attribute [go_sem] Go.Proofs.Tryz.results88
set_option maxRecDepth 100000 in
set_option maxHeartbeats 16000000 in
theorem cs_AllPairs (d:GDisk) (root:Int) (h1:d.fPages.length≤1048576) (h2:d.fLate.length≤1048576) (hsm:∀p,(readPage d p).length≤1048576):CallOK Go.Proofs.Tryz.prog 88 [.d (.agg d.cells),.d (.int .i64 root)] [] [.dead,.dead] (pairsV (allPairs d root)) []:=by
 refine call_fr tysZOK mixedZ Go.Proofs.Tryz.func88 (by kernel_rfl) rfl (by kernel_rfl) hr88 hl88 (by simp [Go.Proofs.Tryz.ntmps88]) rfl ?_
 simp -implicitDefEqProofs only [go_sem,GDisk.cells]
 refine call_free (xs:=[.agg d.cells,.int .i64 root]) rfl (cs_look d root h1 h2 hsm) rfl (.inl rfl) ?_
 rw [allPairs_look]
 cases hb:(lookS d root).bad
 ·simp -implicitDefEqProofs only [go_sem,alBox_eq,hb]
  repeat ((first|refine rq ?_|fail);simp -implicitDefEqProofs only [go_sem,alBox_eq,hb])
  rfl
 ·simp -implicitDefEqProofs only [go_sem,alBox_eq,hb]
  repeat ((first|refine rq ?_|fail);simp -implicitDefEqProofs only [go_sem,alBox_eq,hb])
  rfl
theorem ks_AllPairs {h:Heap} {tb:Nat} {K:OK} {args:List V} (d:GDisk) (root:Int) (h1:d.fPages.length≤1048576) (h2:d.fLate.length≤1048576) (hsm:∀p,(readPage d p).length≤1048576) (hg:toDs h args=some ([.agg d.cells,.int .i64 root],[]))
  (hk:K (renV (bk tb ([])) (pairsV (allPairs d root))) (updN tb ([]) ([]))):callVC Go.Proofs.Tryz.prog h tb 88 args K:=
 call_free hg (cs_AllPairs d root h1 h2 hsm) rfl (.inl rfl) hk
end Go.Rx
