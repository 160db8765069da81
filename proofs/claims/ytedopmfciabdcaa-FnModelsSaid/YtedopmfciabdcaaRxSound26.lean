/-
  Part of the proof that the abstract evaluator is right about the model's run; each lemma names its conditions.
-/
import Derived.Test.YtedopmfciabdcaaRxSound25
namespace Go.Rx
open Go Go.RowKit

/-! ### a region in any order -/

structure Ef where
  dst : Option Nat
  v : V
  u : Upd
  f : Foot

inductive Runs (T : Tys) (P : Program) (all : List Oper) : Nat → List Oper → (Nat → V) → Heap → List Ef → (Nat → V) → Heap → Prop
  | nil (i : Nat) (e : Nat → V) (H : Heap) : Runs T P all i [] e H [] e H
  | cons {i : Nat} {o : Oper} {l : List Oper} {e : Nat → V} {H : Heap} {v : V} {u : Upd} {f : Foot} {es : List Ef} {e' : Nat → V} {H' : Heap}
      (h : Acts T P all i o e H v u f) (hr : Runs T P all (i + 1) l (put1 e o.dst v) (updF u H) es e' H') : Runs T P all i (o :: l) e H (⟨o.dst, v, u, f⟩ :: es) e' H'

section
variable {P : Program} {T : Tys} {all : List Oper}

theorem draw_runs : ∀ {l : List Oper} {i : Nat} {s : St} {fs : List Foot} {K : St → List Foot → Prop}, drawVC T P all i l s fs K →
    ∃ es s', Runs T P all i l (eget s.env) (uget s.H) es (eget s'.env) (uget s'.H) ∧ K s' ((es.map (·.f)).reverse ++ fs) := by
  intro l
  induction l with
  | nil => intro i s fs K h; exact ⟨[], s, .nil _ _ _, h⟩
  | cons o l ih =>
    intro i s fs K h
    have go : ∀ {v : V} {u : Upd} {f : Foot}, Acts T P all i o (eget s.env) (uget s.H) v u f → drawVC T P all (i + 1) l (s.app o.dst v u) (f :: fs) K →
        ∃ es s', Runs T P all i (o :: l) (eget s.env) (uget s.H) es (eget s'.env) (uget s'.H) ∧ K s' ((es.map (·.f)).reverse ++ fs) := by
      intro v u f hA hd
      obtain ⟨es, s', h1, h2⟩ := ih hd
      rw [eget_app, uget_app] at h1
      exact ⟨_, s', .cons hA h1, by simpa using h2⟩
    simp only [drawVC] at h
    cases hg : o.guard with
    | none =>
      rw [hg] at h
      simp only at h
      rw [ev_evF] at h
      obtain ⟨v, u, h1, h2⟩ := op_wit _ h
      refine go (v := v) (u := u) ?_ h2
      simp only [Acts, hg]
      exact ⟨h1, trivial⟩
    | some q =>
      obtain ⟨j, want⟩ := q
      rw [hg] at h
      simp only at h
      have hne : guardV all s.env j ≠ .dead := by intro h'; rw [h'] at h; exact h
      obtain ⟨t, ht, hgv⟩ := guardV_of hne
      rw [ht] at h
      cases hx : guardV all s.env j with
      | d y =>
        rw [hx] at h
        rw [hx] at hgv
        cases y with
        | bool b =>
          simp only at h
          by_cases hb : b = want
          · have hw := h.1 hb
            subst hb
            rw [ev_evF] at hw
            obtain ⟨v, u, h1, h2⟩ := op_wit _ hw
            refine go (v := v) (u := u) ?_ h2
            simp only [Acts, hg]
            exact ⟨t, ht, .inl ⟨hgv.symm, h1, rfl⟩⟩
          · have hb' : b = !want := by cases b <;> cases want <;> simp_all
            have h := h.2 hb'
            refine go ?_ h
            simp only [Acts, hg]
            exact ⟨t, ht, .inr ⟨.inl (hb' ▸ hgv.symm), by simp⟩⟩
        | und =>
          simp only at h
          refine go ?_ h
          simp only [Acts, hg]
          exact ⟨t, ht, .inr ⟨.inr hgv.symm, by simp⟩⟩
        | _ => exact h.elim
      | _ => rw [hx] at h; exact h.elim

def wE (es : List Ef) : List (List (Nat × V)) := es.map fun x => dstW x.dst x.v
def wH (es : List Ef) : List (List (Nat × Option AObj)) := es.map fun x => x.u

theorem runG_shift {α : Type} {k k' : Nat} {ws : List (List (Nat × α))} {σ : Nat → α} : runG (fun _ => true) k ws σ = runG (fun _ => true) k' ws σ := by
  induction ws generalizing k k' σ with
  | nil => rfl
  | cons w ws ih => simp only [runG]; exact ih

theorem Runs.at {i : Nat} {l : List Oper} {e : Nat → V} {H : Heap} {es : List Ef} {e' : Nat → V} {H' : Heap} (h : Runs T P all i l e H es e' H') :
    es.length = l.length ∧ e' = runG (fun _ => true) 0 (wE es) e ∧ H' = runG (fun _ => true) 0 (wH es) H ∧
    ∀ (k : Nat) o, l[k]? = some o → ∃ x, es[k]? = some x ∧ x.dst = o.dst ∧
      Acts T P all (i + k) o (runG (fun _ => true) 0 ((wE es).take k) e) (runG (fun _ => true) 0 ((wH es).take k) H) x.v x.u x.f := by
  induction h with
  | nil i e H => exact ⟨rfl, rfl, rfl, fun k o hk => by simp at hk⟩
  | @cons i o l e H v u f es e' H' hA hr ih =>
    obtain ⟨h1, h2, h3, h4⟩ := ih
    refine ⟨by simp [h1], ?_, ?_, fun k o' hk => ?_⟩
    · rw [h2, put1_upG]; simp only [wE, List.map_cons, runG, cond_true]; exact runG_shift
    · rw [h3, updF_upG]; simp only [wH, List.map_cons, runG, cond_true]; exact runG_shift
    · cases k with
      | zero =>
        simp at hk; subst hk
        exact ⟨_, rfl, rfl, hA⟩
      | succ k =>
        simp at hk
        obtain ⟨x, hx, hd, hA'⟩ := h4 k o' hk
        refine ⟨x, by simpa using hx, hd, ?_⟩
        have e1 : i + 1 + k = i + (k + 1) := by omega
        rw [e1, put1_upG, updF_upG] at hA'
        simp only [wE, wH, List.map_cons, List.take_succ_cons, runG, cond_true]
        rw [runG_shift (k := 0 + 1) (k' := 0), runG_shift (k := 0 + 1) (k' := 0)]
        exact hA'

theorem Acts.foot {i : Nat} {o : Oper} {e : Nat → V} {H : Heap} {v : V} {u : Upd} {f : Foot} (h : Acts T P all i o e H v u f) : f.wt = o.dst ∧ f.wn = u.map (·.1) := by
  unfold Acts at h
  split at h
  · rw [h.2]; exact ⟨rfl, rfl⟩
  · obtain ⟨t, _, h⟩ := h
    rcases h with ⟨_, _, h⟩ | ⟨_, _, hu, h⟩
    · rw [h]; exact ⟨rfl, rfl⟩
    · rw [h, hu]; exact ⟨rfl, rfl⟩

theorem Acts.loc {i : Nat} {o : Oper} {e e' : Nat → V} {H H' : Heap} {v : V} {u : Upd} {f : Foot} (h : Acts T P all i o e H v u f)
    (he : ∀ t ∈ f.rt, e t = e' t) (hH : ∀ n ∈ f.rn, H n = H' n) : ∃ f', Acts T P all i o e' H' v u f' := by
  have key : (∀ t ∈ tmpsOf o, e t = e' t) → (∀ n ∈ rdN o (evF e) H, H n = H' n) → opVC T P i o (evF e) H (eqK v u) → opVC T P i o (evF e') H' (eqK v u) := fun h1 h2 hop =>
    opVC_loc (fun x hx => by
      cases x with
      | tmp t => exact h1 t (List.mem_filterMap.2 ⟨.tmp t, by simpa using hx, rfl⟩)
      | _ => rfl) h2 hop
  unfold Acts at h ⊢
  split at h
  · exact ⟨_, key (by rw [h.2] at he; exact he) (by rw [h.2] at hH; exact hH) h.1, rfl⟩
  · obtain ⟨t, ht, h⟩ := h
    rcases h with ⟨hb, hop, hf⟩ | ⟨hb, hv, hu, hf⟩
    · rw [hf] at he hH
      have h0 := he t (by simp)
      exact ⟨_, t, ht, .inl ⟨by rw [← h0]; exact hb, key (fun k hk => he k (by simp [hk])) hH hop, rfl⟩⟩
    · rw [hf] at he
      have h0 := he t (by simp)
      exact ⟨_, t, ht, .inr ⟨by rw [← h0]; exact hb, hv, hu, rfl⟩⟩

/-! marks that are apart -/

structure Apart (x y : Foot) : Prop where
  tr : ∀ t, x.wt = some t → t ∉ y.rt
  rt : ∀ t, y.wt = some t → t ∉ x.rt
  tt : ∀ t, x.wt = some t → y.wt ≠ some t
  nn : ∀ n, n ∈ x.wn → n ∉ y.wn
  nr : ∀ n, n ∈ x.wn → n ∉ y.rn
  rn : ∀ n, n ∈ y.wn → n ∉ x.rn

theorem Apart.symm {x y : Foot} (h : Apart x y) : Apart y x := ⟨h.rt, h.tr, fun t h1 h2 => h.tt t h2 h1, fun n h1 h2 => h.nn n h2 h1, h.rn, h.nr⟩

theorem apartL_spec {a b : List Nat} (h : apartL a b = true) : ∀ n, n ∈ a → n ∉ b := fun n hn hb => by
  have := List.all_eq_true.1 h n hn
  simp at this
  exact this hb

theorem apartF_spec {x y : Foot} (h : apartF x y = true) : Apart x y := by
  unfold apartF at h
  simp only [Bool.and_eq_true] at h
  obtain ⟨⟨⟨⟨h1, h2⟩, h3⟩, h4⟩, h5⟩ := h
  refine ⟨fun t ht => ?_, fun t ht => ?_, fun t ht => ?_, apartL_spec h3, apartL_spec h4, apartL_spec h5⟩
  · rw [ht] at h1; simp at h1; exact h1.1
  · rw [ht] at h2; simp at h2; exact h2
  · rw [ht] at h1; simp at h1; exact h1.2

/-! what comes ahead -/

theorem mem_dd {n : Nat} : ∀ {l acc : List Nat}, n ∈ dd acc l ↔ n ∈ acc ∨ n ∈ l
  | [], acc => by simp [dd]
  | m :: l, acc => by
    simp only [dd]
    cases hc : acc.contains m with
    | true =>
      simp only [cond_true]
      rw [mem_dd]
      have : m ∈ acc := by simpa using hc
      constructor
      · rintro (h | h)
        · exact .inl h
        · exact .inr (by simp [h])
      · rintro (h | h)
        · exact .inl h
        · rcases List.mem_cons.1 h with rfl | h
          · exact .inl this
          · exact .inr h
    | false =>
      simp only [cond_false]
      rw [mem_dd]
      simp only [List.mem_cons]
      constructor
      · rintro ((h | h) | h)
        · exact .inr (.inl h)
        · exact .inl h
        · exact .inr (.inr h)
      · rintro (h | h | h)
        · exact .inl (.inr h)
        · exact .inl (.inl h)
        · exact .inr h

theorem befs_spec : ∀ {l : List Oper} {acc : List (List Nat)} {i : Nat}, acc.length = i → edgesOk i l = true →
    (∀ j, j < i → (befs acc l).getD j [] = acc.getD j []) ∧
    ∀ (j : Nat) o, l[j]? = some o → (∀ e ∈ o.after, Region.binds .any e = true → e.on < i + j) ∧
      ∀ k, k ∈ (befs acc l).getD (i + j) [] → ∃ e ∈ o.after, Region.binds .any e = true ∧ (k = e.on ∨ k ∈ (befs acc l).getD e.on []) := by
  intro l
  induction l with
  | nil => intro acc i _ _; exact ⟨fun _ _ => rfl, fun j o h => by simp at h⟩
  | cons o l ih =>
    intro acc i hi he
    simp only [edgesOk, Bool.and_eq_true] at he
    obtain ⟨he, hel⟩ := he
    have hlt : ∀ e ∈ o.after, Region.binds .any e = true → e.on < i := fun e hm hb => by
      have := List.all_eq_true.1 he e (by simpa using hm)
      rw [hb] at this
      simpa using this
    simp only [befs]
    generalize hx : dd [] ((o.after.toList.filter (Region.binds .any)).flatMap fun e => e.on :: acc.getD e.on []) = x
    obtain ⟨h1, h2⟩ := ih (acc := acc ++ [x]) (i := i + 1) (by simp [hi]) hel
    have hold : ∀ j, j < i → (befs (acc ++ [x]) l).getD j [] = acc.getD j [] := fun j hj => by
      rw [h1 j (by omega)]
      rw [List.getD_eq_getElem?_getD, List.getD_eq_getElem?_getD, List.getElem?_append_left (by omega)]
    refine ⟨hold, fun j o' hj => ?_⟩
    cases j with
    | zero =>
      simp at hj; subst hj
      refine ⟨fun e hm hb => by have := hlt e hm hb; omega, fun k hk => ?_⟩
      rw [Nat.add_zero, h1 i (by omega), List.getD_eq_getElem?_getD, List.getElem?_append_right (by omega), hi] at hk
      simp at hk
      rw [← hx, mem_dd] at hk
      rcases hk with hk | hk
      · simp at hk
      · obtain ⟨e, hm, hk⟩ := List.mem_flatMap.1 hk
        obtain ⟨hm, hb⟩ := List.mem_filter.1 hm
        refine ⟨e, by simpa using hm, hb, ?_⟩
        rcases List.mem_cons.1 hk with hk | hk
        · exact .inl hk
        · exact .inr (by rw [hold e.on (hlt e (by simpa using hm) hb)]; exact hk)
    | succ j =>
      simp at hj
      have := h2 j o' hj
      have e1 : i + 1 + j = i + (j + 1) := by omega
      rwa [e1] at this

end
end Go.Rx
