/-
  Part of the proof that the abstract evaluator is right about the model's run; each lemma names its conditions.
-/
import Derived.Test.YtedopmfciabdcaaRxSound8
namespace Go.Rx
open Go Go.RowKit

section
variable {P : Program} {T : Tys} {w : World} {ok : Nat → Prop} {lam : Nat → Option Nat} {H : Heap} {q : Nat → Prop} {v0 : V} {u0 : Upd}

theorem aggc_sound {x : V} {xv : Value} {cs : List V} (hx : VRel w ok lam H x xv) (h : x.aggc = some cs) : ∃ vs, xv = .agg ⟨vs⟩ ∧ Rel2 (VRel w ok lam H) cs vs ∧ (VGood q x → ∀ v ∈ cs, VGood q v) := by
  cases x with
  | agg l => simp [V.aggc] at h; subst h; obtain ⟨vs, rfl, hr⟩ := hx.inv_agg; exact ⟨vs, rfl, hr, fun hg => by cases hg with | agg hg => exact hg⟩
  | d y =>
    cases y with
    | agg ds => simp [V.aggc] at h; subst h; obtain ⟨vs, rfl, hr⟩ := ofD_agg hx.inv_d; exact ⟨vs, rfl, Rel2.dV hr, fun _ => good_map_d q _⟩
    | _ => simp [V.aggc] at h
  | _ => simp [V.aggc] at h

theorem field_sound (hT : TyOK P T) {t f off ft : Nat} (hf : fieldOff T t f = some (off, ft)) {x : V} {xv : Value} (hx : VRel w ok lam H x xv) (h : fieldVC T ft off x (eqK v0 u0)) :
    Quiet P w ok lam H q v0 u0 (VGood q x) (Instr.field t xv f) := by
  unfold fieldVC at h
  cases hc : x.aggc with
  | none => simp [hc, onSome] at h
  | some cs =>
    simp only [hc, onSome] at h
    obtain ⟨⟨hs, hpos, hone⟩, hkn, rfl, rfl⟩ := h
    obtain ⟨i, info, fs, z, fld, hTt, ht, hfl, rfl, rfl⟩ := fieldOff_some hT hf
    obtain ⟨vs, rfl, hr, hg⟩ := aggc_sound (q := q) hx hc
    obtain ⟨it, info2, d2, z2, hT2, ht2, hsz⟩ := sizeOfT_pos hT hpos
    have hlen := hr.1
    have hdrop := hr.drop fld.offset
    have hst := isStruct_kind hT2
    have hrun : ∀ c, (part fld.type ⟨vs⟩ fld.offset).run P w = .ok c w → (Instr.field t (.agg ⟨vs⟩) f).run P w = .ok c w := by
      intro c hc
      simp [Instr.field, ht.run_und, hfl, asAgg, hc]
    cases hk : it.kind.isRow with
    | true =>
      refine ⟨.agg ⟨(vs.drop fld.offset).take it.size⟩, hrun _ ?_, rfl, ?_, ?_⟩
      · simp [part, ht2.run_isAgg, hk, ht2.run_sizeOf]
      · simp only [loadC, hst, hk, cond_true, hsz]; exact VRel.mkAgg (hdrop.take _)
      · intro hg'
        simp only [loadC, hst, hk, cond_true]
        exact .agg fun v hv => hg hg' v (List.mem_of_mem_drop (List.mem_of_mem_take hv))
    | false =>
      have h1 : it.size = 1 := by simpa [hst, hk, hsz] using hone
      have hlt : fld.offset < vs.length := by omega
      have hget : vs[fld.offset]? = some vs[fld.offset] := List.getElem?_eq_getElem hlt
      obtain ⟨x, hx, hxv⟩ := hr.get' hget
      refine ⟨vs[fld.offset], hrun _ (part_run ht2 hk hget), rfl, ?_, ?_⟩
      · simp only [loadC, hst, hk, cond_false]
        have : (cs.drop fld.offset)[0]? = some x := by simpa using hx
        cases hd : cs.drop fld.offset with
        | nil => simp [hd] at this
        | cons y l => simp [hd] at this; subst this; exact hxv
      · intro hg'
        simp only [loadC, hst, hk, cond_false]
        cases hd : cs.drop fld.offset with
        | nil => exact .dead
        | cons y l => exact hg hg' y (List.mem_of_mem_drop (i := fld.offset) (by rw [hd]; exact List.mem_cons_self))

def splice {α : Type} (l : List α) (off : Nat) (vs : List α) : List α := l.take off ++ vs ++ l.drop (off + vs.length)

theorem Rel2.splice {α β : Type} {R : α → β → Prop} {l m : List α} {l' m' : List β} (h : Rel2 R l l') (h2 : Rel2 R m m') (off : Nat) : Rel2 R (splice l off m) (splice l' off m') := by
  unfold Go.Rx.splice
  rw [h2.1]
  exact ((h.take off).append h2).append (h.drop _)

theorem fold_splice : ∀ (vs : List Value) (k off : Nat) (cells : Array Value), off + k + vs.length ≤ cells.size →
    ((vs.zipIdx k).foldl (fun cs p => cs.setIfInBounds (off + p.2) p.1) cells).toList = splice cells.toList (off + k) vs := by
  intro vs
  induction vs with
  | nil => intro k off cells h; simp [splice]
  | cons v vs ih =>
    intro k off cells h
    simp only [List.zipIdx_cons, List.foldl_cons]
    rw [ih (k + 1) off _ (by simp at h ⊢; omega)]
    simp only [List.length_cons] at h
    have hlt : off + k < cells.toList.length := by simp; omega
    simp only [splice, Array.toList_setIfInBounds, List.length_cons]
    rw [show off + (k + 1) = off + k + 1 by omega, show off + k + (vs.length + 1) = off + k + 1 + vs.length by omega]
    rw [List.take_succ_eq_append_getElem (by simpa using hlt)]
    simp only [List.getElem_set_self, List.take_set_of_le (Nat.le_refl _), List.drop_set_of_lt (show off + k < off + k + 1 + vs.length by omega), List.append_assoc, List.singleton_append]

theorem fold_array (v : Value) (off : Nat) (cells : Array Value) (h : off + v.cells.size ≤ cells.size) :
    (v.cells.zipIdx.foldl (fun cs (c, j) => cs.setIfInBounds (off + j) c) cells) = ⟨splice cells.toList off v.cells.toList⟩ := by
  apply Array.ext'
  have := fold_splice v.cells.toList 0 off cells (by simpa using h)
  simp only [Nat.add_zero] at this
  rw [← this, ← Array.foldl_toList, Array.toList_zipIdx]

theorem setAt_splice (cs : List V) (off : Nat) (vs : List V) : setAt cs off vs = splice cs off vs := rfl

theorem build_fill {fs : List (Nat × Nat)} {n : Nat} {place : Nat → Option (Nat × Nat)} (hpl : ∀ (i : Nat) off t, fs[i]? = some (off, t) → known T t = true → place i = some (off, sizeOfT T t)) :
    ∀ (ps : List (Nat × V)) (ps' : List (Nat × Value)) (cs : List V) (vs : List Value) (cs' : List V), Rel2 (VRel w ok lam H) cs vs → cs.length = n →
      Rel2 (fun a b => a.1 = b.1 ∧ VRel w ok lam H a.2 b.2) ps ps' → buildC T fs n cs ps = some cs' →
      ∃ vs', Instr.fill place ⟨vs⟩ ps' = some ⟨vs'⟩ ∧ Rel2 (VRel w ok lam H) cs' vs' ∧ ((∀ v ∈ cs, VGood q v) → (∀ p ∈ ps, VGood q p.2) → ∀ v ∈ cs', VGood q v) := by
  intro ps
  induction ps with
  | nil =>
    intro ps' cs vs cs' hr hn hp h
    rw [hp.nil_left]
    simp [buildC] at h; subst h
    exact ⟨vs, rfl, hr, fun hg _ => hg⟩
  | cons p ps ih =>
    intro ps' cs vs cs' hr hn hp h
    obtain ⟨i, x⟩ := p
    obtain ⟨⟨i', xv⟩, rest, rfl, ⟨hi, hx⟩, hrest⟩ := hp.uncons
    obtain rfl : i = i' := hi
    simp only [buildC] at h
    cases hf : fs[i]? with
    | none => simp [hf] at h
    | some ot =>
      obtain ⟨off, t⟩ := ot
      cases hc : x.cells with
      | none => simp [hf, hc] at h
      | some xs =>
        simp only [hf, hc] at h
        cases hcond : (xs.length == sizeOfT T t && (off + xs.length).ble n && known T t) with
        | false => simp [hcond] at h
        | true =>
          simp only [hcond, cond_true] at h
          simp only [Bool.and_eq_true, beq_iff_eq, Nat.ble_eq] at hcond
          obtain ⟨⟨h1, h2⟩, h3⟩ := hcond
          have hxc := V.cells_sound hx hc
          have hxl : xv.cells.size = xs.length := by have := hxc.1; simp at this; omega
          have hvl : vs.length = n := by rw [← hr.1]; exact hn
          have hsz : off + xv.cells.size ≤ (⟨vs⟩ : Array Value).size := by simp; omega
          have hfold := fold_array xv off ⟨vs⟩ hsz
          have hlen' : (setAt cs off xs).length = n := by simp [setAt]; omega
          obtain ⟨vs', hf', hr', hg'⟩ := ih rest (setAt cs off xs) (splice vs off xv.cells.toList) cs' (hr.splice hxc off) hlen' hrest h
          refine ⟨vs', ?_, hr', fun hg1 hg2 => hg' (fun v hv => ?_) fun p hp => hg2 p (List.mem_cons_of_mem _ hp)⟩
          · simp only [Instr.fill, hpl i off t hf h3]
            rw [if_neg (by simp only [ne_eq, decide_not, Bool.or_eq_true, decide_eq_true_eq, not_or]; simp; omega)]
            rw [hfold]
            exact hf'
          · simp only [setAt, List.mem_append] at hv
            rcases hv with (hv | hv) | hv
            · exact hg1 v (List.mem_of_mem_take hv)
            · have hgx := hg2 (i, x) List.mem_cons_self
              cases x <;> simp only [V.cells] at hc <;> first
                | (simp at hc; done)
                | (simp at hc; subst hc; simp at hv; subst hv; exact hgx)
                | (simp at hc; subst hc; cases hgx with | agg hgx => exact hgx v hv)
                | skip
              rename_i y
              cases y <;> simp only [V.cells] at hc <;> first
                | (simp at hc; done)
                | (simp at hc; subst hc; simp at hv; obtain ⟨z, _, rfl⟩ := hv; exact .d _)
                | (simp at hc; subst hc; simp at hv; subst hv; exact hgx)
            · exact hg1 v (List.mem_of_mem_drop hv)

theorem zeroV_rel : ∀ {zs : List Z} {vs : List Value}, Rel2 Z.rel zs vs → Rel2 (VRel w ok lam H) (zeroV zs) vs := by
  intro zs
  induction zs with
  | nil => intro vs h; rw [h.nil_left]; exact Rel2.nil _
  | cons z zs ih =>
    intro vs h
    obtain ⟨v, m, rfl, hv, hm⟩ := h.uncons
    cases z with
    | d x => exact Rel2.cons (.d (hv w ok)) (ih hm)
    | nils m' => exact Rel2.cons (by have : v = .slice none 0 0 := hv; subst this; exact .nils) (ih hm)

theorem zeroV_good : ∀ (zs : List Z), ∀ v ∈ zeroV zs, VGood q v := by
  intro zs
  induction zs with
  | nil => intro v hv; simp [zeroV] at hv
  | cons z zs ih =>
    intro v hv
    cases z <;> simp [zeroV] at hv <;> rcases hv with rfl | hv
    · exact .d _
    · exact ih v hv
    · exact .nils
    · exact ih v hv

theorem zeroV_length : ∀ (zs : List Z), (zeroV zs).length = zs.length := by
  intro zs; induction zs with
  | nil => rfl
  | cons z zs ih => cases z <;> simp [zeroV, ih]

theorem mapM_known (hT : TyOK P T) : ∀ (fs : List Go.Field), (∀ f ∈ fs, known T f.type = true) → fs.mapM (fun f => (P.info? f.type).map fun i => (f.offset, i.size)) = some (fs.map fun f => (f.offset, sizeOfT T f.type)) := by
  intro fs
  induction fs with
  | nil => intro _; rfl
  | cons f fs ih =>
    intro h
    have hk := h f List.mem_cons_self
    unfold known at hk
    cases hi : T f.type with
    | none => simp [hi] at hk
    | some i =>
      obtain ⟨info, d, z, ha⟩ := hT _ i hi
      rw [List.mapM_cons, ih fun f hf => h f (List.mem_cons_of_mem _ hf)]
      simp [ha.inf, ha.size, sizeOfT, hi]

theorem build_sound (hT : TyOK P T) {t : Nat} {fs : List (Nat × Nat)} {n : Nat} {zs : List Z} (hst : structOf (T t) = some (fs, n, zs)) (hzn : zs.length = n) (hall : (fs.all fun q => known T q.2) = true)
    {ps : List (Nat × V)} {ps' : Array (Nat × Value)} (hp : Rel2 (fun a b => a.1 = b.1 ∧ VRel w ok lam H a.2 b.2) ps ps'.toList) {cs : List V} (hb : buildC T fs n (zeroV zs) ps = some cs) (h : v0 = .agg cs ∧ u0 = []) :
    Quiet P w ok lam H q v0 u0 (∀ p ∈ ps, VGood q p.2) (Instr.build t ps') := by
  obtain ⟨rfl, rfl⟩ := h
  unfold structOf at hst
  split at hst
  · rename_i n' b' fs' z' hTt
    simp at hst
    obtain ⟨rfl, rfl, rfl⟩ := hst
    obtain ⟨info, d, z, ha⟩ := hT t _ hTt
    obtain ⟨fl, rfl, hfl⟩ := kindOK_struct ha.kind
    have hk : ∀ f ∈ fl.toList, known T f.type = true := fun f hf => by
      have := List.all_eq_true.1 hall (f.offset, f.type) (by rw [← hfl]; exact List.mem_map.2 ⟨f, hf, rfl⟩)
      exact this
    have hmm := mapM_known hT fl.toList hk
    obtain ⟨vs, hfill, hr, hg⟩ := build_fill (w := w) (ok := ok) (lam := lam) (H := H) (q := q) (fs := fs') (n := n') (place := ((fl.toList.map fun f => (f.offset, sizeOfT T f.type)).toArray[·]?)) (fun i off t hi _ => by
        rw [← hfl, List.getElem?_map] at hi
        cases hx : fl.toList[i]? with
        | none => simp [hx] at hi
        | some f => simp [hx] at hi; obtain ⟨rfl, rfl⟩ := hi; simp at hx; simp [hx]) ps ps'.toList _ z.cells.toList cs (zeroV_rel ha.zrel) (by rw [zeroV_length]; exact hzn) hp hb
    refine ⟨.agg ⟨vs⟩, run_build w t ps' ⟨vs⟩ ?_, rfl, VRel.mkAgg hr, fun hgp => .agg (hg (zeroV_good _) hgp)⟩
    unfold Program.built
    rw [ha.inf, ha.und]
    simp only [ha.zero, hmm]
    exact hfill
  · simp at hst

theorem nil_sound {x : V} {xv : Value} (hx : VRel w ok lam H x xv) (h : nilVC H x (eqK v0 u0)) :
    v0 = x ∧ u0 = [] ∧ ((∃ A, xv = .pointer (some A)) ∨ ∃ f a b, xv = .func (.func f) a b) := by
  unfold nilVC at h
  split at h
  · rename_i n off
    cases hn : H n with
    | none => simp [hn, onObj] at h
    | some o =>
      simp only [hn, onObj] at h
      obtain ⟨rfl, rfl⟩ := h
      cases hx with | ref _ hx =>
      obtain ⟨b, _, rfl⟩ := hx o hn
      exact ⟨rfl, rfl, .inl ⟨_, rfl⟩⟩
  · rename_i n i j
    cases hn : H n with
    | none => simp [hn, onArr] at h
    | some o =>
      cases o with
      | box c => simp [hn, onArr] at h
      | arr m xs =>
        simp only [hn, onArr] at h
        obtain ⟨rfl, rfl⟩ := h
        cases hx with | el _ hx =>
        obtain ⟨_, b, _, rfl⟩ := hx m xs hn
        exact ⟨rfl, rfl, .inl ⟨_, rfl⟩⟩
  · obtain ⟨rfl, rfl⟩ := h; cases hx.inv_d; exact ⟨rfl, rfl, .inl ⟨_, rfl⟩⟩
  · obtain ⟨rfl, rfl⟩ := h; cases hx.inv_d; exact ⟨rfl, rfl, .inr ⟨_, _, _, rfl⟩⟩
  · obtain ⟨rfl, rfl⟩ := h; cases hx; exact ⟨rfl, rfl, .inr ⟨_, _, _, rfl⟩⟩
  · exact h.elim

end
end Go.Rx
