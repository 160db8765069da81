/-
  Part of the proof that the abstract evaluator is right about the model's run; each lemma names its conditions.
-/
import Derived.Test.YtedopmfciabdcaaRxSound7
import Derived.Laws.IdiomStrings
import Derived.Laws.Tables
import Derived.Deep.AppendSrc
namespace Go.Rx
open Go Go.RowKit

section
variable {P : Program} {T : Tys} {w : World} {ok : Nat → Prop} {lam : Nat → Option Nat} {H : Heap} {q : Nat → Prop} {v0 : V} {u0 : Upd}

theorem un_sound {op : UnOp} {x : V} {xv : Value} (hx : VRel w ok lam H x xv) (h : unVC op x (eqK v0 u0)) : Quiet P w ok lam H q v0 u0 True (Op.unary op xv) := by
  unfold unVC at h
  split at h
  · cases op <;> simp only at h
    obtain ⟨rfl, rfl⟩ := h
    cases hx.inv_d
    exact ⟨.bool _, rfl, rfl, .d (.bool _), fun _ => .d _⟩
  · cases op <;> simp only at h
    obtain ⟨rfl, rfl⟩ := h
    cases hx.inv_d
    exact ⟨.int _ _, rfl, rfl, .d (.int _ _), fun _ => .d _⟩
  · exact h.elim

theorem pick_sound {c a b : V} {cv av bv : Value} (hc : VRel w ok lam H c cv) (ha : VRel w ok lam H a av) (hb : VRel w ok lam H b bv) (h : pickVC c a b (eqK v0 u0)) :
    Quiet P w ok lam H q v0 u0 (VGood q a ∧ VGood q b) (do pure (if ← asBool cv then av else bv)) := by
  unfold pickVC at h
  split at h
  · rename_i t
    obtain ⟨rfl, rfl⟩ := h
    cases hc.inv_d
    cases t
    · exact ⟨bv, rfl, rfl, hb, fun hg => hg.2⟩
    · exact ⟨av, rfl, rfl, ha, fun hg => hg.1⟩
  · exact h.elim

theorem ext_sound {n : Nat} {x : V} {xv : Value} (hx : VRel w ok lam H x xv) (h : extVC n x (eqK v0 u0)) : Quiet P w ok lam H q v0 u0 (VGood q x) (Instr.extract xv n) := by
  unfold extVC at h
  split at h
  · rename_i vs
    obtain ⟨cs, rfl, hr⟩ := hx.inv_tup
    cases hv : vs[n]? with
    | none => simp [hv, onSome] at h
    | some v =>
      simp only [hv, onSome] at h
      obtain ⟨rfl, rfl⟩ := h
      obtain ⟨c, hc, hrel⟩ := hr.get hv
      refine ⟨c, ?_, rfl, hrel, fun hg => by cases hg with | tup hg => exact hg _ (List.mem_of_getElem? hv)⟩
      have : (⟨cs⟩ : Array Value)[n]? = some c := by simpa using hc
      simp [Instr.extract, this]
  · exact h.elim

theorem isSl_und (hT : TyOK P T) {t : Nat} (hs : isSl (T t) = true) : ∃ e, P.underlying t = some (.slice e) := by
  unfold isSl at hs
  split at hs
  · rename_i a b e z hTt
    obtain ⟨info, d, zz, ht⟩ := hT t _ hTt
    have := kindOK_slice ht.kind
    subst this
    exact ⟨_, ht.und⟩
  · simp at hs

theorem own_slice {n off len : Nat} {xv : Value} (hx : VRel w ok lam H (.own n off len) xv) {m : Nat} {xs : List (List D)} (hn : H n = some (.arr m xs)) : ∃ A c, xv = .slice A len c := by
  cases hx with | own _ hx =>
  obtain ⟨_, hc⟩ := hx m xs hn
  rcases hc with ⟨_, rfl, rfl⟩ | ⟨b, o, cap, cs, Te, fr, _, rfl, _⟩
  · exact ⟨_, _, rfl⟩
  · exact ⟨_, _, rfl⟩

theorem len_sound (hT : TyOK P T) {ts : Array Nat} {t ty : Nat} (hts : ts[0]? = some t) {x : V} {xv : Value} (hx : VRel w ok lam H x xv)
    (h : lenVC H (T t) x (eqK v0 u0)) : Quiet P w ok lam H q v0 u0 True (Builtin.len_ ts ty #[xv]) := by
  have sl : ∀ {e : Nat} {A : Option Addr} {n c : Nat}, P.underlying t = some (.slice e) → (Builtin.len_ ts ty #[.slice A n c]).run P w = .ok (.int .i64 n) w := by
    intro e A n c hu
    simp [Builtin.len_, hts, run_underlying hu, goInt]
  unfold lenVC at h
  split at h
  · obtain ⟨hs, rfl, rfl⟩ := h
    cases hx.inv_d
    have hu := isStr_und hT hs
    exact ⟨.int .i64 _, by simp [Builtin.len_, hts, run_underlying hu, goInt, size_mk], rfl, .d (.int _ _), fun _ => .d _⟩
  · obtain ⟨hs, rfl, rfl⟩ := h
    obtain ⟨e, hu⟩ := isSl_und hT hs
    cases hx.inv_d with
    | sl0 A c => exact ⟨_, sl hu, rfl, .d (.int _ _), fun _ => .d _⟩
    | sl _ m b o cap f hc hm hb hl hv hd => exact ⟨_, sl hu, rfl, .d (.int _ _), fun _ => .d _⟩
  · rename_i n off len
    obtain ⟨hs, h⟩ := h
    have hn : ∃ m xs, H n = some (.arr m xs) ∧ v0 = .d (.int .i64 len) ∧ u0 = [] := by
      cases hn : H n with
      | none => simp [hn, onArr] at h
      | some o => cases o with
        | box c => simp [hn, onArr] at h
        | arr m xs => rw [hn] at h; exact ⟨m, xs, rfl, h.1.symm, h.2.symm⟩
    obtain ⟨m, xs, hn, rfl, rfl⟩ := hn
    obtain ⟨e, hu⟩ := isSl_und hT hs
    obtain ⟨A, c, rfl⟩ := own_slice hx hn
    exact ⟨_, sl hu, rfl, .d (.int _ _), fun _ => .d _⟩
  · obtain ⟨hs, rfl, rfl⟩ := h
    obtain ⟨e, hu⟩ := isSl_und hT hs
    cases hx
    exact ⟨_, sl hu, rfl, .d (.int _ _), fun _ => .d _⟩
  · exact h.elim

theorem bLess_eq_lt (a b : List UInt8) : Op.bytesLess a b = bLess a b := rfl

theorem min_sound {ts : Array Nat} {ty : Nat} {x y : V} {xv yv : Value} (hx : VRel w ok lam H x xv) (hy : VRel w ok lam H y yv) {v : V} (hm : minMax true x y = some v) (h : v0 = v ∧ u0 = []) :
    Quiet P w ok lam H q v0 u0 True (Builtin.min_ ts ty #[xv, yv]) := by
  obtain ⟨rfl, rfl⟩ := h
  unfold minMax at hm
  split at hm
  · split at hm
    · rename_i k a k' b hkk; subst hkk; simp at hm; subst hm
      cases hx.inv_d; cases hy.inv_d
      exact ⟨.int _ _, run_min_int2 _ _ _ _ _ _ _, rfl, .d (.int _ _), fun _ => .d _⟩
    · simp at hm
  · rename_i a b
    simp at hm; subst hm
    cases hx.inv_d with | str _ ha =>
    cases hy.inv_d with | str _ hb =>
    have e := bLess_total a b
    refine ⟨.string ⟨⟨bif bLess b a then b else a⟩⟩, ?_, rfl, .d (.str _ (by cases (bLess b a) <;> simpa)), fun _ => .d _⟩
    simp only [Builtin.min_, List.foldlM_cons, List.foldlM_nil, Builtin.min2, Op.stringOp, toList_mk, bLess_eq_lt, e, Sem.run_bind, Sem.run_pure, Result.andThen_ok, asBool]
    cases bLess b a <;> rfl
  · simp at hm

theorem max_sound {ts : Array Nat} {ty : Nat} {x y : V} {xv yv : Value} (hx : VRel w ok lam H x xv) (hy : VRel w ok lam H y yv) {v : V} (hm : minMax false x y = some v) (h : v0 = v ∧ u0 = []) :
    Quiet P w ok lam H q v0 u0 True (Builtin.max_ ts ty #[xv, yv]) := by
  obtain ⟨rfl, rfl⟩ := h
  unfold minMax at hm
  split at hm
  · split at hm
    · rename_i k a k' b hkk; subst hkk; simp at hm; subst hm
      cases hx.inv_d; cases hy.inv_d
      refine ⟨.int _ (if a < b then b else a), ?_, rfl, .d (.int _ _), fun _ => .d _⟩
      rw [run_max_int2]
    · simp at hm
  · rename_i a b
    simp at hm; subst hm
    cases hx.inv_d with | str _ ha =>
    cases hy.inv_d with | str _ hb =>
    refine ⟨.string ⟨⟨bif bLess a b then b else a⟩⟩, ?_, rfl, .d (.str _ (by cases bLess a b <;> simpa)), fun _ => .d _⟩
    simp [Builtin.max_, Builtin.max2, Op.stringOp, toList_mk, bLess_eq_lt, asBool]
    cases bLess a b <;> rfl
  · simp at hm

theorem byteCell_inv (l : List UInt8) : (l.map byteCell).map byteOf = l := by
  rw [List.map_map]
  conv => rhs; rw [← List.map_id l]
  apply List.map_congr_left
  intro b _
  simp [byteCell, byteOf]

theorem isPrefixD {ls : List Nat} {d : D} {v : Value} (h : DRel w (okB ok lam H ls) d v) : DRel w (fun _ => True) d v := h.mono (fun _ _ => rfl) fun _ _ => trivial

/-- string(b). -/
theorem bytes_sound {src dst e : Nat} {l : List UInt8} {xv : Value} {o : Nat → Prop} (hs : P.underlying src = some (.slice e)) (he : P.underlying e = some (.int .u8)) (hd : P.underlying dst = some .string)
    (hx : DRel w o (.sl (l.map byteCell)) xv) : (convert src dst xv).run P w = .ok (.string ⟨⟨l⟩⟩) w ∧ l.length ≤ LEN := by
  generalize hxs : l.map byteCell = xs at hx
  cases hx with
  | sl0 A c =>
    have : l = [] := by simpa using hxs
    subst this
    refine ⟨?_, by unfold LEN; simp⟩
    cases A with
    | none => rw [run_convert_bytes_string w src dst e none 0 c hs he hd]; rfl
    | some a => exact run_convert_bytes_back w src dst e a c [] hs he hd (fun j hj => by simp at hj)
  | sl _ m b o cap f hc hm hb hl hv hd' =>
    have hlen : xs.length = l.length := by rw [← hxs]; simp
    refine ⟨?_, by omega⟩
    rw [hlen]
    cases l with
    | nil => exact run_convert_bytes_back w src dst e ⟨b, o, none⟩ cap [] hs he hd (fun j hj => by simp at hj)
    | cons c0 l0 =>
      have hm1 : m = 1 := by rw [← hl (byteCell c0) (by rw [← hxs]; simp)]; rfl
      subst hm1
      refine run_convert_bytes_back w src dst e ⟨b, o, none⟩ cap (c0 :: l0) hs he hd fun j hj => ?_
      have hxj : xs[j]? = some (byteCell (c0 :: l0)[j]) := by rw [← hxs, List.getElem?_map, List.getElem?_eq_getElem hj]; rfl
      have h1 := hv j _ 0 _ hxj rfl
      have h2 := hd' j _ 0 _ hxj rfl
      rw [Addr.add_mid]
      simp only [Nat.mul_one, Nat.add_zero] at h1 h2
      rw [h1]
      generalize f j = y at h2
      cases h2
      rfl

end
end Go.Rx
