/-
  The given statement holds; its only conditions are the given row's own.
-/
import Derived.Test.YtedopmfciabdcaaRxRow2
import Derived.Test.YtedopmfciabdcaaRows
namespace Go.Proofs.Ytedopmfciabdcaa
open Go Go.Rx Go.ChangeShapes Go.WideShapes Go.ChangeAt Go.RowKit

theorem Try.own : ownKnob Try.prog.godebug = none := by kernel_rfl
theorem Try.laidOut : laidOutB Try.prog = true := by kernel_rfl

theorem open_ev {H : Type} {enc : TypeId × Value → H} {W : World} {r : Go.Reach} {base : Nat} {v : Value} {d : DataW H} {ps : List MemPlace}
    (hv : Value.okWide Try.prog W r base 32 v) (h : DataW.Trod enc Try.prog W 0 (fun _ => true) true 32 v d ps) :
    ∃ e : Ev, DRel W (fun b => b < W.heap.size) (.agg e.cells) v ∧ e.ok := by
  obtain ⟨fuel, h⟩ := h
  simp only [Value.okWide, Try.underlying32] at hv
  obtain ⟨cs, rfl, hsz, ts, hts, _, hrow⟩ := hv
  have hts' : Try.prog.cellTypes Try.prog.depth 32 = some [3, 3, 9, 9, 3, 30, 3] := by kernel_rfl
  rw [hts'] at hts
  obtain rfl := Option.some.inj hts
  obtain ⟨xs, n, rfl, _, hl, hxl, hf⟩ := DataW.trod_struct Try.underlying32 h
  have hc : Try.prog.cellsOf 32 = 7 := by kernel_rfl
  rw [hc] at hl
  have c3 : Try.prog.cellsOf 3 = 1 := by kernel_rfl
  have c9 : Try.prog.cellsOf 9 = 1 := by kernel_rfl
  have c30 : Try.prog.cellsOf 30 = 1 := by kernel_rfl
  obtain ⟨cs⟩ := cs
  simp only [Value.cells] at hl hf
  match cs, xs, hl, hxl with
  | [v0, v1, v2, v3, v4, v5, v6], [y0, y1, y2, y3, y4, y5, y6], _, _ =>
    have g0 : DataW.trod enc Try.prog W 0 (fun _ => true) true n 3 [v0] = some y0 := by simpa [c3, c9, c30] using hf 0 _ rfl
    have g1 : DataW.trod enc Try.prog W 0 (fun _ => true) true n 3 [v1] = some y1 := by simpa [c3, c9, c30] using hf 1 _ rfl
    have g2 : DataW.trod enc Try.prog W 0 (fun _ => true) true n 9 [v2] = some y2 := by simpa [c3, c9, c30] using hf 2 _ rfl
    have g3 : DataW.trod enc Try.prog W 0 (fun _ => true) true n 9 [v3] = some y3 := by simpa [c3, c9, c30] using hf 3 _ rfl
    have g4 : DataW.trod enc Try.prog W 0 (fun _ => true) true n 3 [v4] = some y4 := by simpa [c3, c9, c30] using hf 4 _ rfl
    have g5 : DataW.trod enc Try.prog W 0 (fun _ => true) true n 30 [v5] = some y5 := by simpa [c3, c9, c30] using hf 5 _ rfl
    have g6 : DataW.trod enc Try.prog W 0 (fun _ => true) true n 3 [v6] = some y6 := by simpa [c3, c9, c30] using hf 6 _ rfl
    obtain ⟨a0, e0, _⟩ := DataW.trod_int Try.underlying3 g0
    obtain ⟨a1, e1, _⟩ := DataW.trod_int Try.underlying3 g1
    obtain ⟨a2, e2, _, k2⟩ := DataW.trod_string Try.underlying9 g2
    obtain ⟨a3, e3, _, k3⟩ := DataW.trod_string Try.underlying9 g3
    obtain ⟨a4, e4, _⟩ := DataW.trod_int Try.underlying3 g4
    obtain ⟨a6, e6, _⟩ := DataW.trod_int Try.underlying3 g6
    obtain ⟨u, hu, hcell⟩ := hrow 5 v5 rfl
    obtain rfl : 30 = u := by simpa using hu
    obtain ⟨l, hl5, hll⟩ := open_ones' (x := y5) D.bool Try.underlying30 (by kernel_rfl) (one_bool Try.underlying4) (cell_okWide_slice Try.underlying30 hcell) g5
    obtain rfl : v0 = _ := by simpa using e0
    obtain rfl : v1 = _ := by simpa using e1
    obtain rfl : v2 = _ := by simpa using e2
    obtain rfl : v3 = _ := by simpa using e3
    obtain rfl : v4 = _ := by simpa using e4
    obtain rfl : v6 = _ := by simpa using e6
    have hmax : maxLen = LEN := rfl
    refine ⟨⟨a0, a1, a2.data.toList, a3.data.toList, a4, l, a6⟩, .agg _ _ rfl fun i d v h1 h2 => ?_, hmax ▸ (by simpa using k2), hmax ▸ (by simpa using k3), hll⟩
    match i, h1, h2 with
    | 0, h1, h2 => cases h1; cases h2; exact .int _ _
    | 1, h1, h2 => cases h1; cases h2; exact .int _ _
    | 2, h1, h2 => cases h1; cases h2; exact .str _ (hmax ▸ (by simpa using k2))
    | 3, h1, h2 => cases h1; cases h2; exact .str _ (hmax ▸ (by simpa using k3))
    | 4, h1, h2 => cases h1; cases h2; exact .int _ _
    | 5, h1, h2 => cases h1; cases h2; exact hl5
    | 6, h1, h2 => cases h1; cases h2; exact .int _ _
    | i + 7, h1, _ => simp [Ev.cells] at h1

set_option maxRecDepth 100000 in
theorem eventOk_lifted (os : Os) (started : os.Started) (H : Type) (enc : TypeId × Value → H) :
    ReturnsInHanded {} Try.checked os 5 .any (Rows.fnExactEventOkSpec.pre6 enc Try.prog Try.f5 Rows.fnExactEventOkRow.domain false) (Rows.fnExactEventOkSpec.post enc Try.prog Try.f5 false true false false) := by
  refine returnsInHanded_of_change (C := Try.checked) Try.own started (by kernel_rfl) Try.func5
    (ChangeSpec.witness6 (enc := enc) (C := Try.checked) false ⟨#[], #[.agg #[.int .i64 0, .int .i64 0, .string ⟨#[]⟩, .string ⟨#[]⟩, .int .i64 0, .slice none 0 0, .int .i64 0]], []⟩ 8 (by kernel_rfl) (by kernel_rfl) (by kernel_rfl) (by kernel_rfl)) ?_
  intro W base args ds gs before hval0 hW hcnd _
  have hval : ∀ (j : Nat) t v, Try.f5.params[j]? = some t → args[j]? = some v → Value.okWide Try.prog W .any base t v := hval0
  have hW' := hW
  obtain ⟨p, q, hA0, hV, rfl, hfz, hnd⟩ := hW
  have hA : DataW.TrodAll enc Try.prog W 0 (fun _ => true) true Try.f5.params.toList args.toList ds p := hA0
  rw [Try.params5] at hA hval
  obtain ⟨v0, d0, rfl, rfl, h0⟩ := trodAll_one hA
  obtain ⟨rfl, rfl⟩ := trodVars_none hV
  obtain ⟨e, hd, he⟩ := open_ev (hval 0 32 v0 rfl rfl) h0
  exact law_calls (t := 4) (xs := [.agg e.cells]) Try.laidOut (by rw [Try.params5]; intro t ht; simp at ht; subst ht; exact ⟨by kernel_rfl, of_decide_eq_true (by kernel_rfl)⟩) (by kernel_rfl) Try.underlying4 rfl rfl rfl rfl hW' (c5 e he) rfl
    (fun i x v h1 h2 => by
      match i, h1, h2 with
      | 0, h1, h2 => cases h1; cases h2; exact hd
      | i + 1, h1, _ => cases h1)

theorem fnExactEventOk_holds : Rows.FnExactEventOkSaid :=
  OpenClaim.holds_of_wide 5 Try.f5 rfl rfl rfl rfl rfl rfl rfl ⟨rfl, rfl, rfl, rfl, rfl⟩ rfl rfl rfl rfl rfl (by kernel_rfl) Try.func5 (by kernel_rfl)
    (of_decide_eq_true (by kernel_rfl)) (by unfold Func.isWrapper; first | (rw [if_pos (by decide +kernel)]; kernel_rfl) | (rw [if_neg (by decide +kernel)]; exact ⟨rfl, rfl⟩))
    (fun os started H enc _ => eventOk_lifted os started H enc)

end Go.Proofs.Ytedopmfciabdcaa
