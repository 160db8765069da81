/-
  Part A4: lemmas on an evaluator over plain data of the model's code, plain laws on lists and numbers, or contracts of functions of the program; each lemma names its conditions.
-/
import Derived.Test.YtflimjgjgligeaaGreatSA3
import Derived.Test.YtflimjgjgligeaaGreatSP1
import Derived.Test.YtflimjgjgligeaaGreatSE6

set_option linter.unusedSimpArgs false
set_option linter.unusedVariables false
set_option maxRecDepth 100000
set_option maxHeartbeats 16000000
set_option linter.defProp false
namespace Go.Rx
open Go
attribute [local irreducible] Req Way WayG Sel Z2 ZQ Zaz cVC Zai ZaO
theorem ZfW:ZyZ none= .tup [.d (.agg [.bool false,.sl [],.sl [],.sl []]),.d (.bool false)]:=rfl
theorem ZaE {n:Z1}:ZyZ (some n)= .tup [.d (.agg [.bool n.Zn,.sl (strs n.Zj),.sl (strs n.ZJ),.sl (ints n.Zk)]),.d (.bool true)]:=rfl
@[go_sem] def hr153:ZW:=hh [[0,1,2],[0,1,2,6,7],[0],[0,1,2,6],[0,2,6],[0,2,6],[0,6],[0,6,70,71,72],[0,6,70,71,72],[0,6,8,9,70,71,72],[0,6,70,71,72],[0,2,6],[0,2,6,10],[0,2,6,10,100,101,102],[0,2,6,10,100,101,102],[0,2,6,10,11,12,100,101,102],[0,2,6,10,11,12,13,100,101,102],[0,2,6,10,11,13,100,101,102],[0,2,6,10,11,13,100,101,102],[0,2,6,10,100,101,102]]
@[go_sem] def hl153:ZW:=hh [[],[],[],[],[],[],[],[0,6,70,71,72],[],[],[],[],[],[0,2,6,10,100,101,102]]
attribute [go_sem] Go.Proofs.Tryz.results153
def Zv6 (a:Al):List (Nat×AObj):=[(0,.box [.own 1 0 a.pairs.length,.own 2 0 a.pages.length,.own 3 0 a.deeps.length,.d (.bool a.bad),.d (.bool a.loose)]),(1,.arr 2 (Zaj a.pairs)),(2,.arr 1 (ints a.pages)),(3,.arr 1 (ints a.deeps))]
theorem ZaI {a:Al}:Zv6 a=[(0,.box [.own 1 0 a.pairs.length,.own 2 0 a.pages.length,.own 3 0 a.deeps.length,.d (.bool a.bad),.d (.bool a.loose)]),(1,.arr 2 (Zaj a.pairs)),(2,.arr 1 (ints a.pages)),(3,.arr 1 (ints a.deeps))]:=rfl
@[go_sem] def hr176:ZW:=hh [[0,1,2,3,4,5,6],[1,2,3,4,5,6,7],[1,2,3,4,5,6,7,14,15],[6],[1,2,3,4,5,6,7,14],[2,3,4,5,6,7,14],[2,3,4,5,6,7,14,16],[2,3,4,5,6,7,14,16],[2,3,4,5,6,7,14,16],[2,3,4,5,6,7,14,16,17],[2,3,4,5,6,7,14,16,17],[2,3,4,5,6,7,14,16,17],[2,3,4,5,6,7,14,16,17],[2,3,4,5,6,7,14,16,17],[2,3,4,5,6,7,14,16,17,18],[2,3,4,5,6,7,14,16,17],[2,3,4,5,6,7,14,16,18],[2,3,4,5,6,7,14,16,18,19],[2,3,4,5,6,7,14,16,18,19,20],[2,3,4,5,6,7,14,16,18],[2,3,4,5,6,7,14,16,18,19],[2,3,4,5,6,7,14,16,18,19,20],[2,6,14],[2,6]]
@[go_sem] def hl176:ZW:=hh [[],[],[],[],[],[],[2,3,4,5,6,7,14,16]]
attribute [go_sem] Go.Proofs.Tryz.results176
set_option maxHeartbeats 12000000 in
theorem Zzo (d : ZT) (h1 : d.Zv.length ≤ 1048576) (h2 : d.Zm.length ≤ 1048576) (hsm : ∀ p, (ZU d p).length ≤ 1048576) : ∀ (f : Nat) (page : Int) (low high : List UInt8) (has : Bool) (a : Al), f ≤ 8 → roomS f a →
    ZQ Go.Proofs.Tryz.prog 176 [.d (.agg d.cells), .d (.int .i64 page), .d (.int .i64 (8 - (f : Int))), .d (.str low), .d (.str high), .d (.bool has), .ref 0 0] (Zv6 a) [.dead, .dead, .dead, .dead, .dead, .dead, .ref 0 0] (.tup []) (Zv6 (Zcr d f page low high has a)) := by
  intro f;induction f with
  | zero =>
    intro page low high has a hf hroom;have d8 : decide ((8 : Int) ≤ 8 - ((0 : Nat) : Int)) = true := rfl;refine cof Go.Proofs.Tryz.func176 hr176 hl176 [false, false, false, false, false, false, true] ?_;simp -implicitDefEqProofs only [go_sem, ZT.cells, ZaI];refine Zal d page (by omega) (by omega) rfl ?_;simp -implicitDefEqProofs only [go_sem];refine Zas (ZU d page) (by have := hsm page; omega) rfl ?_;rw [Zcr];cases hn : ZaH (ZU d page) with
    | none =>
      simp only [ZfW];simp -implicitDefEqProofs only [go_sem, ZaI, d8];repeat ((first | refine rq ?_ | fail); simp -implicitDefEqProofs only [go_sem, ZaI, d8])
    | some n =>
      simp only [ZaE];simp -implicitDefEqProofs only [go_sem, ZaI, d8];repeat ((first | refine rq ?_ | fail); simp -implicitDefEqProofs only [go_sem, ZaI, d8])
  | succ f ih =>
    intro page low high has a hf hroom;obtain ⟨r1, r2, r3⟩ := hroom;have hpow : 4 ^ (f + 1) = 4 ^ f * 4 := Nat.pow_succ ..;have hp1 : 1 ≤ 4 ^ f := Nat.one_le_pow _ _ (by omega);have d8 : decide ((8 : Int) ≤ 8 - ((f + 1 : Nat) : Int)) = false := decide_eq_false (by omega);refine cof Go.Proofs.Tryz.func176 hr176 hl176 [false, false, false, false, false, false, true] ?_;simp -implicitDefEqProofs only [go_sem, ZT.cells, ZaI];refine Zal d page (by omega) (by omega) rfl ?_;simp -implicitDefEqProofs only [go_sem];refine Zas (ZU d page) (by have := hsm page; omega) rfl ?_;rw [Zcr]
    cases hn : ZaH (ZU d page) with
    | none =>
      simp only [ZfW];simp -implicitDefEqProofs only [go_sem, ZaI, d8];repeat ((first | refine rq ?_ | fail); simp -implicitDefEqProofs only [go_sem, ZaI, d8])
    | some n =>
      obtain ⟨hok, _⟩ := Zb5.1 hn;have hk4 := hok.2.1;simp only [ZaE];simp -implicitDefEqProofs only [go_sem, ZaI, d8];refine Znx a.pages page (by simp only [LEN]; omega) (ls := [2]) (by simp -implicitDefEqProofs only [go_sem]; first | done | rfl) ?_;by_cases hp : page ∈ a.pages
      · have dp := decide_eq_true hp
        rw [if_pos (.inl hp)];simp -implicitDefEqProofs only [go_sem, ZaI, dp];repeat ((first | refine rq ?_ | fail); simp -implicitDefEqProofs only [go_sem, ZaI, dp])
      · have dp := decide_eq_false hp
        cases hb : a.bad
        · rw [if_neg (by simp [hp])]
          cases hl : n.Zn
          · have hiff := (Ze4 hl).1 hok
            simp -implicitDefEqProofs only [go_sem, dp];repeat ((first | refine rq ?_ | fail); simp -implicitDefEqProofs only [go_sem, dp])
            have e9 : IntKind.i64.wrap (8 - ((f + 1 : Nat) : Int) + 1) = 8 - (f : Int) := by rw [Zad (by omega) (by omega)]; omega
            simp only [Bool.false_eq_true, if_false];refine ZY (α := Nat × Al) (fun x => ⟨[(2, .d (.int .i64 (8 - ((f + 1 : Nat) : Int)))), (3, .d (.str low)), (4, .d (.str high)), (5, .d (.bool has)), (6, .ref 0 0), (7, .ref 4 0), (14, .ref 5 0), (16, .d (.int .i64 x.1))],
                [(0, some (.box [.own 1 0 x.2.pairs.length, .own 2 0 x.2.pages.length, .own 3 0 x.2.deeps.length, .d (.bool x.2.bad), .d (.bool x.2.loose)])),
                 (1, some (.arr 2 (Zaj x.2.pairs))), (2, some (.arr 1 (ints x.2.pages))), (3, some (.arr 1 (ints x.2.deeps))), (4, some (.box [.d (.sl (strs d.Zv)), .d (.sl (Zae d.Zm))])),
                 (5, some (.box [.d (.bool false), .d (.sl (strs n.Zj)), .d (.sl (strs n.ZJ)), .d (.sl (ints n.Zk))]))]⟩)
              (fun x => x.1 ≤ n.Zj.length ∧ Zge (Zcr d f) low high has ((n.Zj.zip n.Zk).drop x.1) x.2 = Zge (Zcr d f) low high has (n.Zj.zip n.Zk) ⟨a.pairs, a.pages ++ [page], a.deeps, false, a.loose⟩ ∧
                x.2.pages.length ≤ a.pages.length + 1 + x.1 * (2 * 4 ^ f - 1) ∧ x.2.pairs.length ≤ a.pairs.length + x.1 * (2 * 4 ^ f - 1) ∧ x.2.deeps.length ≤ a.deeps.length + x.1 * (2 * 4 ^ f - 1))
              (fun x => n.Zj.length - x.1) (0, ⟨a.pairs, a.pages ++ [page], a.deeps, false, a.loose⟩) (by simp) ⟨Nat.zero_le _, by rw [List.drop_zero], by simp, by simp, by simp⟩ ?_
            rintro ⟨i, u⟩ ⟨i1, i2, i4, i5, i6⟩;simp only at i1 i2 i4 i5 i6;simp -implicitDefEqProofs only [go_sem];refine fork (fun h5 => ?_) (fun h5 => ?_)
            · obtain ⟨k, hk⟩ := Z3 (l := n.Zj) (i := i) (by omega)
              obtain ⟨c, hc⟩ := Z3 (l := n.Zk) (i := i) (by omega);rw [ZbU (Zfg hk hc), Zge] at i2;have hi3 : i * (2 * 4 ^ f - 1) ≤ 3 * (2 * 4 ^ f - 1) := Nat.mul_le_mul_right _ (by omega);have hsm1 : (i + 1) * (2 * 4 ^ f - 1) = i * (2 * 4 ^ f - 1) + (2 * 4 ^ f - 1) := Nat.succ_mul ..;cases hlk : Zax low k
              · have elo : lowS low k = low := by simp [lowS, hlk]
                have wsucc : IntKind.i64.wrap ((i : Int) + 1) = ((i + 1 : Nat) : Int) := ZV (by simp only [LEN]; omega);by_cases hl2 : ((i + 1 : Nat) : Int) < (n.Zj.length : Int)
                · have hlast : decide (((i + 1 : Nat) : Int) < (n.Zj.length : Int)) = true := decide_eq_true hl2
                  obtain ⟨k2, hk2⟩ := Z3 (l := n.Zj) (i := i + 1) (by omega);obtain ⟨c2, hc2⟩ := Z3 (l := n.Zk) (i := i + 1) (by omega);have hrest := ZbU (Zfg hk2 hc2);cases hhas : has
                  · subst hhas
                    have ehi : Zd4 high false ((n.Zj.zip n.Zk).drop (i + 1)) = k2 := by rw [hrest]; simp [Zd4, capS]
                    have emo : Zd0 high false ((n.Zj.zip n.Zk).drop (i + 1)) = true := by rw [hrest]; simp [Zd0, capS]
                    rw [elo, ehi, emo] at i2;have g1 := ZbX (d := d) (f := f) (page := c) (low := low) (high := k2) (has := true) (a := u);have g2 := ZbW (d := d) (f := f) (page := c) (low := low) (high := k2) (has := true) (a := u);have g3 := Zcd (d := d) (f := f) (page := c) (low := low) (high := k2) (has := true) (a := u);simp -implicitDefEqProofs only [go_sem, ZM hk, ZO hc, e9, ZT.cells, hlk, hlast, ZM hk2, wsucc];repeat ((first | refine rq ?_ | refine ZcN false (n := 0) (vs := [.agg [.d (.sl (strs d.Zv)), .d (.sl (Zae d.Zm))], .d (.int .i64 c), .d (.int .i64 (8 - (f : Int))), .d (.str low), .d (.str k2), .d (.bool true)]) (xs := [.agg d.cells, .int .i64 c, .int .i64 (8 - (f : Int)), .str low, .str k2, .bool true]) (ih c (low) (k2) (true) u (by omega) ⟨by omega, by omega, by omega⟩) rfl rfl rfl rfl rfl rfl rfl rfl (.inr (.inl rfl)) ?_ rfl | fail); simp -implicitDefEqProofs only [go_sem, ZM hk, ZO hc, e9, ZaI, hlk, hlast, ZM hk2, wsucc])
                    generalize hv : Zcr d f c (low) (k2) (true) u = v at i2 g1 g2 g3 ⊢;try rw [ZV (by simp only [LEN]; omega)]
                    exact ZP (i + 1, v) (by first | rfl | rw [wsucc]) ⟨by simp only; omega, i2, by simp only; omega, by simp only; omega, by simp only; omega⟩ (by simp only; omega)
                  · subst hhas
                    cases hcap : Zax k2 high
                    · have ehi : Zd4 high true ((n.Zj.zip n.Zk).drop (i + 1)) = high := by rw [hrest]; simp [Zd4, capS, hcap]
                      have emo : Zd0 high true ((n.Zj.zip n.Zk).drop (i + 1)) = true := by rw [hrest]; simp [Zd0, capS, hcap]
                      rw [elo, ehi, emo] at i2;have g1 := ZbX (d := d) (f := f) (page := c) (low := low) (high := high) (has := true) (a := u);have g2 := ZbW (d := d) (f := f) (page := c) (low := low) (high := high) (has := true) (a := u);have g3 := Zcd (d := d) (f := f) (page := c) (low := low) (high := high) (has := true) (a := u);simp -implicitDefEqProofs only [go_sem, ZM hk, ZO hc, e9, ZT.cells, hlk, hlast, hcap, ZM hk2, wsucc];repeat ((first | refine rq ?_ | refine ZcN false (n := 0) (vs := [.agg [.d (.sl (strs d.Zv)), .d (.sl (Zae d.Zm))], .d (.int .i64 c), .d (.int .i64 (8 - (f : Int))), .d (.str low), .d (.str high), .d (.bool true)]) (xs := [.agg d.cells, .int .i64 c, .int .i64 (8 - (f : Int)), .str low, .str high, .bool true]) (ih c (low) (high) (true) u (by omega) ⟨by omega, by omega, by omega⟩) rfl rfl rfl rfl rfl rfl rfl rfl (.inr (.inl rfl)) ?_ rfl | fail); simp -implicitDefEqProofs only [go_sem, ZM hk, ZO hc, e9, ZaI, hlk, hlast, hcap, ZM hk2, wsucc])
                      generalize hv : Zcr d f c (low) (high) (true) u = v at i2 g1 g2 g3 ⊢;try rw [ZV (by simp only [LEN]; omega)]
                      exact ZP (i + 1, v) (by first | rfl | rw [wsucc]) ⟨by simp only; omega, i2, by simp only; omega, by simp only; omega, by simp only; omega⟩ (by simp only; omega)
                    · have ehi : Zd4 high true ((n.Zj.zip n.Zk).drop (i + 1)) = k2 := by rw [hrest]; simp [Zd4, capS, hcap]
                      have emo : Zd0 high true ((n.Zj.zip n.Zk).drop (i + 1)) = true := by rw [hrest]; simp [Zd0, capS, hcap]
                      rw [elo, ehi, emo] at i2;have g1 := ZbX (d := d) (f := f) (page := c) (low := low) (high := k2) (has := true) (a := u);have g2 := ZbW (d := d) (f := f) (page := c) (low := low) (high := k2) (has := true) (a := u);have g3 := Zcd (d := d) (f := f) (page := c) (low := low) (high := k2) (has := true) (a := u);simp -implicitDefEqProofs only [go_sem, ZM hk, ZO hc, e9, ZT.cells, hlk, hlast, hcap, ZM hk2, wsucc];repeat ((first | refine rq ?_ | refine ZcN false (n := 0) (vs := [.agg [.d (.sl (strs d.Zv)), .d (.sl (Zae d.Zm))], .d (.int .i64 c), .d (.int .i64 (8 - (f : Int))), .d (.str low), .d (.str k2), .d (.bool true)]) (xs := [.agg d.cells, .int .i64 c, .int .i64 (8 - (f : Int)), .str low, .str k2, .bool true]) (ih c (low) (k2) (true) u (by omega) ⟨by omega, by omega, by omega⟩) rfl rfl rfl rfl rfl rfl rfl rfl (.inr (.inl rfl)) ?_ rfl | fail); simp -implicitDefEqProofs only [go_sem, ZM hk, ZO hc, e9, ZaI, hlk, hlast, hcap, ZM hk2, wsucc])
                      generalize hv : Zcr d f c (low) (k2) (true) u = v at i2 g1 g2 g3 ⊢;try rw [ZV (by simp only [LEN]; omega)]
                      exact ZP (i + 1, v) (by first | rfl | rw [wsucc]) ⟨by simp only; omega, i2, by simp only; omega, by simp only; omega, by simp only; omega⟩ (by simp only; omega)
                · have hlast : decide (((i + 1 : Nat) : Int) < (n.Zj.length : Int)) = false := decide_eq_false hl2
                  have hrest : (n.Zj.zip n.Zk).drop (i + 1) = [] := List.drop_eq_nil_of_le (by simp only [List.length_zip]; omega);have ehi : Zd4 high has ((n.Zj.zip n.Zk).drop (i + 1)) = high := by rw [hrest]; simp [Zd4, capS]
                  have emo : Zd0 high has ((n.Zj.zip n.Zk).drop (i + 1)) = has := by rw [hrest]; simp [Zd0, capS]
                  rw [elo, ehi, emo] at i2;have g1 := ZbX (d := d) (f := f) (page := c) (low := low) (high := high) (has := has) (a := u);have g2 := ZbW (d := d) (f := f) (page := c) (low := low) (high := high) (has := has) (a := u);have g3 := Zcd (d := d) (f := f) (page := c) (low := low) (high := high) (has := has) (a := u);simp -implicitDefEqProofs only [go_sem, ZM hk, ZO hc, e9, ZT.cells, hlk, hlast, wsucc];repeat ((first | refine rq ?_ | refine ZcN false (n := 0) (vs := [.agg [.d (.sl (strs d.Zv)), .d (.sl (Zae d.Zm))], .d (.int .i64 c), .d (.int .i64 (8 - (f : Int))), .d (.str low), .d (.str high), .d (.bool has)]) (xs := [.agg d.cells, .int .i64 c, .int .i64 (8 - (f : Int)), .str low, .str high, .bool has]) (ih c (low) (high) (has) u (by omega) ⟨by omega, by omega, by omega⟩) rfl rfl rfl rfl rfl rfl rfl rfl (.inr (.inl rfl)) ?_ rfl | fail); simp -implicitDefEqProofs only [go_sem, ZM hk, ZO hc, e9, ZaI, hlk, hlast, wsucc])
                  generalize hv : Zcr d f c (low) (high) (has) u = v at i2 g1 g2 g3 ⊢;try rw [ZV (by simp only [LEN]; omega)]
                  exact ZP (i + 1, v) (by first | rfl | rw [wsucc]) ⟨by simp only; omega, i2, by simp only; omega, by simp only; omega, by simp only; omega⟩ (by simp only; omega)
              · have elo : lowS low k = k := by simp [lowS, hlk]
                have wsucc : IntKind.i64.wrap ((i : Int) + 1) = ((i + 1 : Nat) : Int) := ZV (by simp only [LEN]; omega);by_cases hl2 : ((i + 1 : Nat) : Int) < (n.Zj.length : Int)
                · have hlast : decide (((i + 1 : Nat) : Int) < (n.Zj.length : Int)) = true := decide_eq_true hl2
                  obtain ⟨k2, hk2⟩ := Z3 (l := n.Zj) (i := i + 1) (by omega);obtain ⟨c2, hc2⟩ := Z3 (l := n.Zk) (i := i + 1) (by omega);have hrest := ZbU (Zfg hk2 hc2);cases hhas : has
                  · subst hhas
                    have ehi : Zd4 high false ((n.Zj.zip n.Zk).drop (i + 1)) = k2 := by rw [hrest]; simp [Zd4, capS]
                    have emo : Zd0 high false ((n.Zj.zip n.Zk).drop (i + 1)) = true := by rw [hrest]; simp [Zd0, capS]
                    rw [elo, ehi, emo] at i2;have g1 := ZbX (d := d) (f := f) (page := c) (low := k) (high := k2) (has := true) (a := u);have g2 := ZbW (d := d) (f := f) (page := c) (low := k) (high := k2) (has := true) (a := u);have g3 := Zcd (d := d) (f := f) (page := c) (low := k) (high := k2) (has := true) (a := u);simp -implicitDefEqProofs only [go_sem, ZM hk, ZO hc, e9, ZT.cells, hlk, hlast, ZM hk2, wsucc];repeat ((first | refine rq ?_ | refine ZcN false (n := 0) (vs := [.agg [.d (.sl (strs d.Zv)), .d (.sl (Zae d.Zm))], .d (.int .i64 c), .d (.int .i64 (8 - (f : Int))), .d (.str k), .d (.str k2), .d (.bool true)]) (xs := [.agg d.cells, .int .i64 c, .int .i64 (8 - (f : Int)), .str k, .str k2, .bool true]) (ih c (k) (k2) (true) u (by omega) ⟨by omega, by omega, by omega⟩) rfl rfl rfl rfl rfl rfl rfl rfl (.inr (.inl rfl)) ?_ rfl | fail); simp -implicitDefEqProofs only [go_sem, ZM hk, ZO hc, e9, ZaI, hlk, hlast, ZM hk2, wsucc])
                    generalize hv : Zcr d f c (k) (k2) (true) u = v at i2 g1 g2 g3 ⊢;try rw [ZV (by simp only [LEN]; omega)]
                    exact ZP (i + 1, v) (by first | rfl | rw [wsucc]) ⟨by simp only; omega, i2, by simp only; omega, by simp only; omega, by simp only; omega⟩ (by simp only; omega)
                  · subst hhas
                    cases hcap : Zax k2 high
                    · have ehi : Zd4 high true ((n.Zj.zip n.Zk).drop (i + 1)) = high := by rw [hrest]; simp [Zd4, capS, hcap]
                      have emo : Zd0 high true ((n.Zj.zip n.Zk).drop (i + 1)) = true := by rw [hrest]; simp [Zd0, capS, hcap]
                      rw [elo, ehi, emo] at i2;have g1 := ZbX (d := d) (f := f) (page := c) (low := k) (high := high) (has := true) (a := u);have g2 := ZbW (d := d) (f := f) (page := c) (low := k) (high := high) (has := true) (a := u);have g3 := Zcd (d := d) (f := f) (page := c) (low := k) (high := high) (has := true) (a := u);simp -implicitDefEqProofs only [go_sem, ZM hk, ZO hc, e9, ZT.cells, hlk, hlast, hcap, ZM hk2, wsucc];repeat ((first | refine rq ?_ | refine ZcN false (n := 0) (vs := [.agg [.d (.sl (strs d.Zv)), .d (.sl (Zae d.Zm))], .d (.int .i64 c), .d (.int .i64 (8 - (f : Int))), .d (.str k), .d (.str high), .d (.bool true)]) (xs := [.agg d.cells, .int .i64 c, .int .i64 (8 - (f : Int)), .str k, .str high, .bool true]) (ih c (k) (high) (true) u (by omega) ⟨by omega, by omega, by omega⟩) rfl rfl rfl rfl rfl rfl rfl rfl (.inr (.inl rfl)) ?_ rfl | fail); simp -implicitDefEqProofs only [go_sem, ZM hk, ZO hc, e9, ZaI, hlk, hlast, hcap, ZM hk2, wsucc])
                      generalize hv : Zcr d f c (k) (high) (true) u = v at i2 g1 g2 g3 ⊢;try rw [ZV (by simp only [LEN]; omega)]
                      exact ZP (i + 1, v) (by first | rfl | rw [wsucc]) ⟨by simp only; omega, i2, by simp only; omega, by simp only; omega, by simp only; omega⟩ (by simp only; omega)
                    · have ehi : Zd4 high true ((n.Zj.zip n.Zk).drop (i + 1)) = k2 := by rw [hrest]; simp [Zd4, capS, hcap]
                      have emo : Zd0 high true ((n.Zj.zip n.Zk).drop (i + 1)) = true := by rw [hrest]; simp [Zd0, capS, hcap]
                      rw [elo, ehi, emo] at i2;have g1 := ZbX (d := d) (f := f) (page := c) (low := k) (high := k2) (has := true) (a := u);have g2 := ZbW (d := d) (f := f) (page := c) (low := k) (high := k2) (has := true) (a := u);have g3 := Zcd (d := d) (f := f) (page := c) (low := k) (high := k2) (has := true) (a := u);simp -implicitDefEqProofs only [go_sem, ZM hk, ZO hc, e9, ZT.cells, hlk, hlast, hcap, ZM hk2, wsucc];repeat ((first | refine rq ?_ | refine ZcN false (n := 0) (vs := [.agg [.d (.sl (strs d.Zv)), .d (.sl (Zae d.Zm))], .d (.int .i64 c), .d (.int .i64 (8 - (f : Int))), .d (.str k), .d (.str k2), .d (.bool true)]) (xs := [.agg d.cells, .int .i64 c, .int .i64 (8 - (f : Int)), .str k, .str k2, .bool true]) (ih c (k) (k2) (true) u (by omega) ⟨by omega, by omega, by omega⟩) rfl rfl rfl rfl rfl rfl rfl rfl (.inr (.inl rfl)) ?_ rfl | fail); simp -implicitDefEqProofs only [go_sem, ZM hk, ZO hc, e9, ZaI, hlk, hlast, hcap, ZM hk2, wsucc])
                      generalize hv : Zcr d f c (k) (k2) (true) u = v at i2 g1 g2 g3 ⊢;try rw [ZV (by simp only [LEN]; omega)]
                      exact ZP (i + 1, v) (by first | rfl | rw [wsucc]) ⟨by simp only; omega, i2, by simp only; omega, by simp only; omega, by simp only; omega⟩ (by simp only; omega)
                · have hlast : decide (((i + 1 : Nat) : Int) < (n.Zj.length : Int)) = false := decide_eq_false hl2
                  have hrest : (n.Zj.zip n.Zk).drop (i + 1) = [] := List.drop_eq_nil_of_le (by simp only [List.length_zip]; omega);have ehi : Zd4 high has ((n.Zj.zip n.Zk).drop (i + 1)) = high := by rw [hrest]; simp [Zd4, capS]
                  have emo : Zd0 high has ((n.Zj.zip n.Zk).drop (i + 1)) = has := by rw [hrest]; simp [Zd0, capS]
                  rw [elo, ehi, emo] at i2;have g1 := ZbX (d := d) (f := f) (page := c) (low := k) (high := high) (has := has) (a := u);have g2 := ZbW (d := d) (f := f) (page := c) (low := k) (high := high) (has := has) (a := u);have g3 := Zcd (d := d) (f := f) (page := c) (low := k) (high := high) (has := has) (a := u);simp -implicitDefEqProofs only [go_sem, ZM hk, ZO hc, e9, ZT.cells, hlk, hlast, wsucc];repeat ((first | refine rq ?_ | refine ZcN false (n := 0) (vs := [.agg [.d (.sl (strs d.Zv)), .d (.sl (Zae d.Zm))], .d (.int .i64 c), .d (.int .i64 (8 - (f : Int))), .d (.str k), .d (.str high), .d (.bool has)]) (xs := [.agg d.cells, .int .i64 c, .int .i64 (8 - (f : Int)), .str k, .str high, .bool has]) (ih c (k) (high) (has) u (by omega) ⟨by omega, by omega, by omega⟩) rfl rfl rfl rfl rfl rfl rfl rfl (.inr (.inl rfl)) ?_ rfl | fail); simp -implicitDefEqProofs only [go_sem, ZM hk, ZO hc, e9, ZaI, hlk, hlast, wsucc])
                  generalize hv : Zcr d f c (k) (high) (has) u = v at i2 g1 g2 g3 ⊢;try rw [ZV (by simp only [LEN]; omega)]
                  exact ZP (i + 1, v) (by first | rfl | rw [wsucc]) ⟨by simp only; omega, i2, by simp only; omega, by simp only; omega, by simp only; omega⟩ (by simp only; omega)
            · simp -implicitDefEqProofs only [go_sem]
              obtain rfl : i = n.Zj.length := by omega
              rw [List.drop_eq_nil_of_le (by simp only [List.length_zip]; omega), Zge] at i2;rw [← i2];rfl
          · have hiff := (ZgD hl).1 hok
            simp -implicitDefEqProofs only [go_sem, dp];repeat ((first | refine rq ?_ | fail); simp -implicitDefEqProofs only [go_sem, dp])
            simp only [if_true];refine ZY (α := Nat × Al) (fun x => ⟨[(2, .d (.int .i64 (8 - ((f + 1 : Nat) : Int)))), (3, .d (.str low)), (4, .d (.str high)), (5, .d (.bool has)), (6, .ref 0 0), (7, .ref 4 0), (14, .ref 5 0), (16, .d (.int .i64 x.1))],
                [(0, some (.box [.own 1 0 x.2.pairs.length, .own 2 0 x.2.pages.length, .own 3 0 x.2.deeps.length, .d (.bool x.2.bad), .d (.bool x.2.loose)])),
                 (1, some (.arr 2 (Zaj x.2.pairs))), (2, some (.arr 1 (ints x.2.pages))), (3, some (.arr 1 (ints x.2.deeps))), (4, some (.box [.d (.sl (strs d.Zv)), .d (.sl (Zae d.Zm))])),
                 (5, some (.box [.d (.bool true), .d (.sl (strs n.Zj)), .d (.sl (strs n.ZJ)), .d (.sl (ints n.Zk))]))]⟩)
              (fun x => x.1 ≤ n.Zj.length ∧ ZjN low high has ((n.Zj.zip n.ZJ).drop x.1) x.2 = ZjN low high has (n.Zj.zip n.ZJ) ⟨a.pairs, a.pages ++ [page], a.deeps, false, a.loose⟩ ∧
                x.2.pages.length = a.pages.length + 1 ∧ x.2.pairs.length ≤ a.pairs.length + x.1 ∧ x.2.deeps.length = a.deeps.length)
              (fun x => n.Zj.length - x.1) (0, ⟨a.pairs, a.pages ++ [page], a.deeps, false, a.loose⟩) (by simp) ⟨Nat.zero_le _, by rw [List.drop_zero], by simp, by simp, by simp⟩ ?_
            rintro ⟨i, u⟩ ⟨i1, i2, i4, i5, i6⟩;simp only at i1 i2 i4 i5 i6;simp -implicitDefEqProofs only [go_sem];refine fork (fun h5 => ?_) (fun h5 => ?_)
            · obtain ⟨k, hk⟩ := Z3 (l := n.Zj) (i := i) (by omega)
              obtain ⟨v, hv⟩ := Z3 (l := n.ZJ) (i := i) (by omega);rw [ZbU (Zfg hk hv), Zr4] at i2;cases hlk : Zax k low
              · cases hhas : has
                · simp -implicitDefEqProofs only [go_sem, ZM hk, ZM hv, hlk]
                  repeat ((first | refine rq ?_ | fail); simp -implicitDefEqProofs only [go_sem, ZM hk, ZM hv, hlk])
                  rw [ZV (by simp only [LEN]; omega)];subst hhas;exact ZP (i + 1, Zet low high false k v u) (by simp [Zet, hlk]) ⟨by simp only; omega, i2, by simp only [Zet]; omega, by simp only [Zet, List.length_append, List.length_cons, List.length_nil]; omega, by simp only [Zet]; omega⟩ (by simp only; omega)
                · subst hhas
                  cases hkh : Zax k high
                  · simp -implicitDefEqProofs only [go_sem, ZM hk, ZM hv, hlk, hkh]
                    repeat ((first | refine rq ?_ | fail); simp -implicitDefEqProofs only [go_sem, ZM hk, ZM hv, hlk, hkh])
                    rw [ZV (by simp only [LEN]; omega)];exact ZP (i + 1, Zet low high true k v u) (by simp [Zet, hlk, hkh]) ⟨by simp only; omega, i2, by simp only [Zet]; omega, by simp only [Zet, List.length_append, List.length_cons, List.length_nil]; omega, by simp only [Zet]; omega⟩ (by simp only; omega)
                  · simp -implicitDefEqProofs only [go_sem, ZM hk, ZM hv, hlk, hkh]
                    repeat ((first | refine rq ?_ | fail); simp -implicitDefEqProofs only [go_sem, ZM hk, ZM hv, hlk, hkh])
                    rw [ZV (by simp only [LEN]; omega)];exact ZP (i + 1, Zet low high true k v u) (by simp [Zet, hlk, hkh]) ⟨by simp only; omega, i2, by simp only [Zet]; omega, by simp only [Zet, List.length_append, List.length_cons, List.length_nil]; omega, by simp only [Zet]; omega⟩ (by simp only; omega)
              · simp -implicitDefEqProofs only [go_sem, ZM hk, ZM hv, hlk]
                repeat ((first | refine rq ?_ | fail); simp -implicitDefEqProofs only [go_sem, ZM hk, ZM hv, hlk])
                rw [ZV (by simp only [LEN]; omega)];exact ZP (i + 1, Zet low high has k v u) (by simp [Zet, hlk]) ⟨by simp only; omega, i2, by simp only [Zet]; omega, by simp only [Zet, List.length_append, List.length_cons, List.length_nil]; omega, by simp only [Zet]; omega⟩ (by simp only; omega)
            · obtain rfl : i = n.Zj.length := by omega
              rw [List.drop_eq_nil_of_le (by simp only [List.length_zip]; omega), ZjN] at i2;rw [← i2];simp -implicitDefEqProofs only [go_sem];repeat ((first | refine rq ?_ | fail); simp -implicitDefEqProofs only [go_sem])
              have e98 : (8 : Int) - ((f + 1 : Nat) : Int) = 7 - (f : Int) := by omega
              rw [e98];simp [Zv6]
        · rw [if_pos (.inr rfl)]
          simp -implicitDefEqProofs only [go_sem, ZaI, dp];repeat ((first | refine rq ?_ | fail); simp -implicitDefEqProofs only [go_sem, ZaI, dp])
theorem Zt8 {f:Nat} (hf:f≤8):roomS f Al.new:=by
 have:4 ^ f≤4 ^ 8:=Nat.pow_le_pow_right (by omega) hf;have e:(4:Nat) ^ 8=65536:=by decide
 refine ⟨?_,?_,?_⟩<;>simp only [Al.new,List.length_nil]<;>omega
@[go_sem] def hr70:ZW:=hh [[0,1],[1,2],[1,5],[1,5],[5]]
@[go_sem] def hl70:ZW:=hh []
attribute [go_sem] Go.Proofs.Tryz.results70
@[go_sem] def hr103:ZW:=hh [[0,1],[1,2],[1,2,5],[1,2,5],[5]]
@[go_sem] def hl103:ZW:=hh []
attribute [go_sem] Go.Proofs.Tryz.results103
theorem Zvt (d:ZT) (root:Int) (h1:d.Zv.length≤1048576) (h2:d.Zm.length≤1048576) (hsm:∀p,(ZU d p).length≤1048576):
  ZQ Go.Proofs.Tryz.prog 103 [.d (.agg d.cells),.d (.int .i64 root)] [] [.dead,.dead] (.ref 0 0) (Zv6 (Zc1 d root)):=by
 refine cof Go.Proofs.Tryz.func103 hr103 hl103 [false,false] ?_;simp -implicitDefEqProofs only [go_sem,ZT.cells];by_cases hr:root=0
 ·have dr:=decide_eq_true hr;simp -implicitDefEqProofs only [go_sem,dr];rw [Zc1,if_pos hr];rfl
 ·have dr:=decide_eq_false hr;simp -implicitDefEqProofs only [go_sem,dr];refine ZcN false (n:=1) (vs:=[.agg [.d (.sl (strs d.Zv)),.d (.sl (Zae d.Zm))],.d (.int .i64 root),.d (.int .i64 0),.d (.str []),.d (.str []),.d (.bool false)]) (xs:=[.agg d.cells,.int .i64 root,.int .i64 0,.str [],.str [],.bool false]) (Zzo d h1 h2 hsm 8 root [] [] false Al.new (by omega) (Zt8 (by omega))) rfl rfl rfl rfl rfl rfl rfl rfl (.inr (.inl rfl)) ?_ rfl;simp -implicitDefEqProofs only [go_sem,ZaI];rw [Zc1,if_neg hr]
def ZqM:Option (List ZR)→V
 |none=> .tup [.d (.sl []),.d (.bool false)]
 |some l=> .tup [.d (.sl (Zaj l)),.d (.bool true)]
@[go_sem] def hr16:ZW:=hh [[0,1],[1,2],[6],[],[6]]
@[go_sem] def hl16:ZW:=hh []
attribute [go_sem] Go.Proofs.Tryz.results16
@[go_sem] def hr79:ZW:=hh [[0,1],[1,2],[6],[],[6]]
@[go_sem] def hl79:ZW:=hh []
attribute [go_sem] Go.Proofs.Tryz.results79
theorem ZpV (d:ZT) (root:Int) (h1:d.Zv.length≤1048576) (h2:d.Zm.length≤1048576) (hsm:∀p,(ZU d p).length≤1048576):ZQ Go.Proofs.Tryz.prog 79 [.d (.agg d.cells),.d (.int .i64 root)] [] [.dead,.dead] (ZqM (Zeo d root)) []:=by
 refine cofF Go.Proofs.Tryz.func79 hr79 hl79 ?_;simp -implicitDefEqProofs only [go_sem,ZT.cells];refine ZcM (xs:=[.agg d.cells,.int .i64 root]) rfl (Zvt d root h1 h2 hsm) rfl (.inl rfl) ?_;rw [Zmw];cases hb:(Zc1 d root).bad
 ·simp -implicitDefEqProofs only [go_sem,ZaI,hb];repeat ((first|refine rq ?_|fail);simp -implicitDefEqProofs only [go_sem,ZaI,hb])
  rfl
 ·simp -implicitDefEqProofs only [go_sem,ZaI,hb];repeat ((first|refine rq ?_|fail);simp -implicitDefEqProofs only [go_sem,ZaI,hb])
  rfl
def ZgK (d:ZT) (root:Int) (h1:d.Zv.length≤1048576) (h2:d.Zm.length≤1048576) (hsm:∀p,(ZU d p).length≤1048576):=kf (ZpV d root h1 h2 hsm)
@[go_sem] def hr217:ZW:=hh [[0,1,2],[1,2,3],[2,7,8]]
@[go_sem] def hl217:ZW:=hh []
attribute [go_sem] Go.Proofs.Tryz.results217
@[go_sem] def hr149:ZW:=hh [[0],[1]]
@[go_sem] def hl149:ZW:=hh []
attribute [go_sem] Go.Proofs.Tryz.results149
end Go.Rx
