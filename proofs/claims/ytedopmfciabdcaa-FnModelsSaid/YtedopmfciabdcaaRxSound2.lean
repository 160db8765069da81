/-
  Part of the proof that the abstract evaluator is right about the model's run; each lemma names its conditions.
-/
import Derived.Test.YtedopmfciabdcaaRxSound1
namespace Go.Rx
open Go Go.RowKit

section
variable {P : Program} {T : Tys} {w : World} {ok : Nat → Prop} {lam : Nat → Option Nat} {H : Heap} {q : Nat → Prop}

def eqK (v0 : V) (u0 : Upd) : OK := fun v u => v = v0 ∧ u = u0

theorem VRel.mkAgg {cs : List V} {vs : List Value} (h : Rel2 (VRel w ok lam H) cs vs) : VRel w ok lam H (.agg cs) (.agg ⟨vs⟩) := .agg h.1 h.2
theorem VRel.mkTup {cs : List V} {vs : List Value} (h : Rel2 (VRel w ok lam H) cs vs) : VRel w ok lam H (.tup cs) (.tuple ⟨vs⟩) := .tup h.1 h.2

theorem VRel.inv_agg {cs : List V} {v : Value} (h : VRel w ok lam H (.agg cs) v) : ∃ vs, v = .agg ⟨vs⟩ ∧ Rel2 (VRel w ok lam H) cs vs := by
  cases h with | agg hl hd => exact ⟨_, rfl, hl, hd⟩
theorem VRel.inv_tup {cs : List V} {v : Value} (h : VRel w ok lam H (.tup cs) v) : ∃ vs, v = .tuple ⟨vs⟩ ∧ Rel2 (VRel w ok lam H) cs vs := by
  cases h with | tup hl hd => exact ⟨_, rfl, hl, hd⟩
theorem VRel.inv_d {x : D} {v : Value} (h : VRel w ok lam H (.d x) v) : DRel w ok x v := by
  cases h with | d h => exact h

/-- Reading a variable whose cells lie in a row. -/
theorem load_core {t : Nat} {i : TI} {info : TypeInfo} {d : TypeDesc} {z : Value} (ht : TyAt P t i info d z) (hTt : T t = some i) {b o off : Nat} {cells : List V} {vs : List Value}
    (hr : Rel2 (VRel w ok lam H) (cells.drop off) vs) (hc : w.rangeAt b o vs) (hs : i.size ≤ vs.length) (hp : 0 < i.size) (hone : (isStruct T t || sizeOfT T t == 1) = true) :
    ∃ cv, (Instr.loadAt t (.pointer (some ⟨b, o, none⟩))).run P w = .ok cv w ∧ VRel w ok lam H (loadC T t cells off) cv ∧ ((∀ v ∈ cells, VGood q v) → VGood q (loadC T t cells off)) := by
  have hsz : sizeOfT T t = i.size := by simp [sizeOfT, hTt]
  have hst := isStruct_kind hTt
  cases hk : i.kind.isRow with
  | true =>
    refine ⟨.agg ⟨vs.take i.size⟩, ?_, ?_, ?_⟩
    · have := run_loadAt_mid (P := P) w b o t (vs.take i.size) d (fun j v hj => by
        rw [List.getElem?_take] at hj
        split at hj
        · exact hc j v hj
        · simp at hj) ht.und (by rw [kindOK_row ht.kind, hk]) (by simp [ht.inf, ht.size]; omega)
      exact this
    · simp only [loadC, hst, hk, cond_true, hsz]
      exact VRel.mkAgg (hr.take i.size)
    · intro hg
      simp only [loadC, hst, hk, cond_true]
      exact .agg fun v hv => hg v (List.mem_of_mem_drop (List.mem_of_mem_take hv))
  | false =>
    have h1 : i.size = 1 := by simpa [hst, hk, hsz] using hone
    cases vs with
    | nil => simp at hs; omega
    | cons v vs =>
      obtain ⟨x, hx, hxv⟩ := hr.get' (i := 0) rfl
      refine ⟨v, ?_, ?_, ?_⟩
      · have hcell := hc 0 v rfl
        simp only [Nat.add_zero] at hcell
        simp [Instr.loadAt, Instr.sureAddr, loadVar, ht.run_isAgg, hk, hcell]
      · simp only [loadC, hst, hk, cond_false]
        cases hd : cells.drop off with
        | nil => simp [hd] at hx
        | cons y l => simp [hd] at hx; subst hx; exact hxv
      · intro hg
        simp only [loadC, hst, hk, cond_false]
        cases hd : cells.drop off with
        | nil => exact .dead
        | cons y l => exact hg y (List.mem_of_mem_drop (i := off) (by rw [hd]; exact List.mem_cons_self))

theorem box_range (hk : HOK w ok lam H) {n off : Nat} {cells : List V} (hn : H n = some (.box cells)) :
    ∃ b cs T, lam n = some b ∧ w.heap[b]? = some (.cells ⟨cs⟩ T (0, 0)) ∧ Rel2 (VRel w ok lam H) cells cs ∧ w.rangeAt b off (cs.drop off) := by
  obtain ⟨b, ⟨cs⟩, T, h1, h2, h3, h4⟩ := hk.obj n _ hn
  refine ⟨b, cs, T, h1, h2, ⟨by simpa using h3, fun i x y hx hy => h4 i x y hx (by simpa using hy)⟩, fun j v hj => ?_⟩
  rw [cell_of_row w b (off + j) ⟨cs⟩ T (0, 0) h2]
  simpa using hj

theorem rel_of_cells {xs : List D} {f : Nat → Value} (h : ∀ (j : Nat) d, xs[j]? = some d → DRel w ok d (f j)) :
    Rel2 (DRel w ok) xs ((List.range xs.length).map f) := by
  refine ⟨by simp, fun i x y hx hy => ?_⟩
  have hi := (List.getElem?_eq_some_iff.1 hx).1
  simp [hi] at hy
  subst hy
  exact h i x hx

theorem Rel2.dV {xs : List D} {vs : List Value} (h : Rel2 (DRel w ok) xs vs) : Rel2 (VRel w ok lam H) (xs.map .d) vs :=
  Rel2.map _ h fun _ _ _ hr => .d hr

theorem rangeAt_range {b o n : Nat} {f : Nat → Value} (h : ∀ j, j < n → w.cell? ⟨b, o + j, none⟩ = some (f j)) : w.rangeAt b o ((List.range n).map f) := by
  intro j v hj
  rw [List.getElem?_map] at hj
  cases hx : (List.range n)[j]? with
  | none => simp [hx] at hj
  | some a =>
    have hlt := (List.getElem?_eq_some_iff.1 hx).1
    simp at hlt
    simp [hx] at hj
    rw [List.getElem?_range hlt] at hx
    simp at hx; subst hx; subst hj
    exact h j hlt

theorem rangeAt_drop {b o j : Nat} {vs : List Value} (h : w.rangeAt b o vs) : w.rangeAt b (o + j) (vs.drop j) := by
  intro k v hv
  rw [List.getElem?_drop] at hv
  rw [Nat.add_assoc]
  exact h (j + k) v hv

/-- The cells of an element of an array of ours. -/
theorem arr_range (hk : HOK w ok lam H) {n m i : Nat} {xs : List (List D)} (hn : H n = some (.arr m xs)) (hi : i < xs.length) :
    ∃ b cs T fr vs, lam n = some b ∧ w.heap[b]? = some (.cells cs T fr) ∧ (lget xs i).length = m ∧ Rel2 (DRel w ok) (lget xs i) vs ∧ w.rangeAt b (i * m) vs := by
  obtain ⟨hm, hmax, hc⟩ := hk.obj n _ hn
  have hx : xs[i]? = some (lget xs i) := by simp [lget, List.getD, hi]
  rcases hc with ⟨_, h⟩ | ⟨b, cs, T, fr, h1, h2, h3, h4, h5⟩
  · subst h; simp at hi
  · have hcell : ∀ j, w.cell? ⟨b, i * m + j, none⟩ = cs[i * m + j]? := fun j => cell_of_row w b _ cs T fr h2
    refine ⟨b, cs, T, fr, (List.range (lget xs i).length).map fun j => cs.getD (i * m + j) undef, h1, h2, hm _ (List.mem_of_getElem? hx), ?_, ?_⟩
    · refine rel_of_cells fun j d hd => ?_
      obtain ⟨c, hc, hr⟩ := h5 i _ j d hx hd
      simpa [Array.getD_eq_getD_getElem?, hc] using hr
    · refine rangeAt_range fun j hj => ?_
      obtain ⟨c, hc, hr⟩ := h5 i _ j (lget xs i)[j] hx (List.getElem?_eq_getElem hj)
      rw [hcell, hc]
      simp [Array.getD_eq_getD_getElem?, hc]

theorem good_map_d (q : Nat → Prop) (l : List D) : ∀ v ∈ l.map V.d, VGood q v := by
  intro v hv
  obtain ⟨x, _, rfl⟩ := List.mem_map.1 hv
  exact .d x

theorem load_sound (hT : TyOK P T) (hk : HOK w ok lam H) {t : Nat} {p : V} {pv : Value} (hp : VRel w ok lam H p pv) {v0 : V} {u0 : Upd} (h : loadVC T H t p (eqK v0 u0)) :
    ∃ cv, (Instr.loadAt t pv).run P w = .ok cv w ∧ u0 = [] ∧ VRel w ok lam H v0 cv ∧ ((∀ n o, H n = some o → OGood q o) → VGood q v0) := by
  cases p with
  | ref n off =>
    simp only [loadVC] at h
    cases hn : H n with
    | none => simp [hn, onBox] at h
    | some ob =>
      cases ob with
      | arr m xs => simp [hn, onBox] at h
      | box cells =>
        simp only [hn, onBox] at h
        obtain ⟨⟨hs, hpos, hone⟩, rfl, rfl⟩ := h
        obtain ⟨i, info, d, z, hTt, ht, hsz⟩ := sizeOfT_pos hT hpos
        obtain ⟨b, cs, Te, h1, h2, h3, h4⟩ := box_range (off := off) hk hn
        cases hp with | ref _ hp =>
        obtain ⟨b', hb', rfl⟩ := hp _ hn
        obtain rfl : b = b' := by rw [h1] at hb'; exact Option.some.inj hb'
        have hlen := h3.1
        obtain ⟨cv, hr, hv, hg⟩ := load_core (q := q) ht hTt (h3.drop off) h4 (by simp; omega) (by omega) hone
        exact ⟨cv, hr, rfl, hv, fun hgo => hg (hgo n _ hn)⟩
  | el n i j =>
    simp only [loadVC] at h
    cases hn : H n with
    | none => simp [hn, onArr] at h
    | some ob =>
      cases ob with
      | box cells => simp [hn, onArr] at h
      | arr m xs =>
        simp only [hn, onArr] at h
        obtain ⟨hi, ⟨hs, hpos, hone⟩, rfl, rfl⟩ := h
        obtain ⟨it, info, d, z, hTt, ht, hsz⟩ := sizeOfT_pos hT hpos
        obtain ⟨b, cs, Te, fr, vs, h1, h2, h3, h4, h5⟩ := arr_range hk hn hi
        cases hp with | el _ hp =>
        obtain ⟨_, b', hb', rfl⟩ := hp m xs hn
        obtain rfl : b = b' := by rw [h1] at hb'; exact Option.some.inj hb'
        have hlen := h4.1
        obtain ⟨cv, hr, hv, hg⟩ := load_core (q := q) (off := j) (cells := (lget xs i).map .d) ht hTt ((Rel2.dV h4).drop j) (rangeAt_drop h5) (by simp; omega) (by omega) hone
        exact ⟨cv, hr, rfl, hv, fun _ => hg (good_map_d q _)⟩
  | d x =>
    cases x with
    | ptr cs =>
      simp only [loadVC] at h
      obtain ⟨⟨hs, hpos, hone⟩, rfl, rfl⟩ := h
      obtain ⟨it, info, d, z, hTt, ht, hsz⟩ := sizeOfT_pos hT hpos
      cases hp.inv_d with | ptr _ b o f hb hv hd =>
      have hrel := rel_of_cells (w := w) (ok := ok) (xs := cs) (f := f) hd
      have hrange : w.rangeAt b o ((List.range cs.length).map f) := rangeAt_range fun j hj => hv j cs[j] (List.getElem?_eq_getElem hj)
      obtain ⟨cv, hr, hv, hg⟩ := load_core (q := q) (off := 0) (cells := cs.map .d) (lam := lam) (H := H) ht hTt (by simpa using Rel2.dV hrel) hrange (by simp; omega) (by omega) hone
      exact ⟨cv, hr, rfl, hv, fun _ => hg (good_map_d q _)⟩
    | _ => simp [loadVC] at h
  | _ => simp [loadVC] at h

end
end Go.Rx
