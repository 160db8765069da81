/-
  Part of the proof that the abstract evaluator is right about the model's run; each lemma names its conditions.
-/
import Derived.Test.YtedopmfciabdcaaRxSound23
namespace Go.Rx
open Go Go.RowKit

/-! ### a region in its order -/

theorem eget_app (s : St) (dst : Option Nat) (v : V) (u : Upd) : eget (s.app dst v u).env = put1 (eget s.env) dst v := by
  funext t
  cases dst with
  | none => simp [St.app, put1]
  | some d =>
    simp only [St.app, eget, put1, Option.some.injEq]
    by_cases h : d = t
    · simp [h]
    · have : (d == t) = false := by simpa using h
      rw [this, if_neg h]; rfl

theorem uget_cons (q : Nat × Option AObj) (H : Upd) : uget (q :: H) = fun n => if q.1 = n then q.2 else uget H n := by
  funext n
  obtain ⟨k, o⟩ := q
  simp only [uget]
  by_cases h : k = n
  · simp [h]
  · have : (k == n) = false := by simpa using h
    rw [this, if_neg h]; rfl

theorem uget_rev (u H : Upd) : uget (u.reverse ++ H) = updF u (uget H) := by
  induction u generalizing H with
  | nil => rfl
  | cons q u ih =>
    rw [List.reverse_cons, List.append_assoc, List.singleton_append, ih, uget_cons]
    rfl

theorem uget_app (s : St) (dst : Option Nat) (v : V) (u : Upd) : uget (s.app dst v u).H = updF u (uget s.H) := uget_rev u s.H

theorem put1_same {e : Nat → V} {t : Nat} {v : V} (h : e t = v) : put1 e (some t) v = e := by
  funext k
  unfold put1
  by_cases hk : t = k
  · subst hk; rw [if_pos rfl, h]
  · rw [if_neg (by simpa using hk)]

theorem guardV_of {all : List Oper} {env : List (Nat × V)} {j : Nat} (h : guardV all env j ≠ .dead) : ∃ t, guardT all j = some t ∧ guardV all env j = eget env t := by
  unfold guardV at h ⊢
  unfold guardT
  cases ha : all[j]? with
  | none => rw [ha] at h; exact absurd rfl h
  | some o =>
    rw [ha] at h
    simp only at h
    simp only [Option.bind_some]
    cases hd : o.dst with
    | none => rw [hd] at h; exact absurd rfl h
    | some t => exact ⟨t, rfl, rfl⟩

section
variable {P : Program} {T : Tys} {okIn U : Nat → Prop} {w0 : World} {N : Slots} {Q : Exit → Act → World → Prop}

def Lt (k n : Nat) : Prop := n < k

theorem fresh_lt (i : Nat) : Fresh (Lt (1000 * (i + 1))) (1000 * (i + 1)) := fun n h1 _ h => by unfold Lt at h; omega

theorem SR.mono {p p' : Nat → Prop} {e : Nat → V} {H : Heap} {a : Act} {w : World} (h : SR okIn U w0 N p e H a w) (hpp : ∀ n, p n → p' n) : SR okIn U w0 N p' e H a w :=
  let ⟨ok, lam, h⟩ := h; ⟨ok, lam, h.mono hpp⟩

theorem seq_sound (hT : TyOK P T) {ops : Array Oper} (hdst : ∀ o ∈ ops.toList, ∀ d, o.dst = some d → N.can d) {K : St → Prop}
    (hQ : ∀ s a w, SR okIn U w0 N (fun _ => True) (eget s.env) (uget s.H) a w → K s → Q .normal a w) :
    ∀ (l : List Oper) (i : Nat) (s : St) (a : Act) (w : World), ops.toList.drop i = l → SR okIn U w0 N (Lt (1000 * (i + 1))) (eget s.env) (uget s.H) a w →
      seqVC T P ops.toList i l s K → wpOps P ops Q (List.range' i l.length) a w := by
  intro l
  induction l with
  | nil => intro i s a w _ h hv; exact hQ s a w (h.mono fun _ _ => trivial) hv
  | cons o l ih =>
    intro i s a w hl h hv
    have hi : ops[i]? = some o := by
      have := List.getElem?_drop (xs := ops.toList) (i := i) (j := 0)
      rw [hl] at this
      rw [← Array.getElem?_toList]
      simpa using this.symm
    have hl' : ops.toList.drop (i + 1) = l := by rw [← List.drop_drop, hl]; rfl
    have ho : o ∈ ops.toList := by rw [← Array.getElem?_toList] at hi; exact List.mem_of_getElem? hi
    simp only [List.length_cons, List.range'_succ, wpOps_cons]
    have go : ∀ {s' : St} {v : V} {u : Upd} {f : Foot}, eget s'.env = put1 (eget s.env) o.dst v → uget s'.H = updF u (uget s.H) →
        Acts T P ops.toList i o (eget s.env) (uget s.H) v u f → seqVC T P ops.toList (i + 1) l s' K → wpOp P ops Q i (wpOps P ops Q (List.range' (i + 1) l.length)) a w := by
      intro s' v u f he hH hA hs
      refine acts_wp hT h hi (fresh_lt i) (hdst o ho) hA fun a' w' h' => ih (i + 1) s' a' w' hl' ?_ hs
      rw [he, hH]
      refine h'.mono fun n hn => ?_
      unfold pX Lt at hn
      unfold Lt
      omega
    simp only [seqVC] at hv
    cases hg : o.guard with
    | none =>
      rw [hg] at hv
      simp only at hv
      rw [ev_evF] at hv
      obtain ⟨v, u, h1, h2⟩ := op_wit _ hv
      refine go (f := ⟨tmpsOf o, o.dst, rdN o (evF (eget s.env)) (uget s.H), u.map (·.1)⟩) (eget_app s o.dst v u) (uget_app s o.dst v u) ?_ h2
      simp only [Acts, hg]
      exact ⟨h1, trivial⟩
    | some q =>
      obtain ⟨j, want⟩ := q
      rw [hg] at hv
      simp only at hv
      have hne : guardV ops.toList s.env j ≠ .dead := by intro h; rw [h] at hv; exact hv
      obtain ⟨t, ht, hgv⟩ := guardV_of hne
      rw [ht] at hv
      cases hx : guardV ops.toList s.env j with
      | d y =>
        rw [hx] at hv
        rw [hx] at hgv
        cases y with
        | bool b =>
          simp only at hv
          by_cases hb : b = want
          · have hv := hv.1 hb
            subst hb
            have he : eget (s.app (some t) (.d (.bool b)) []).env = eget s.env := by rw [eget_app, put1_same hgv.symm]
            rw [ev_evF, he] at hv
            obtain ⟨v, u, h1, h2⟩ := op_wit _ hv
            refine go (f := ⟨t :: tmpsOf o, o.dst, rdN o (evF (eget s.env)) (uget s.H), u.map (·.1)⟩) (s' := (s.app (some t) (.d (.bool b)) []).app o.dst v u) (by rw [eget_app, he]) (uget_app _ _ _ _) ?_ h2
            simp only [Acts, hg]
            exact ⟨t, ht, .inl ⟨hgv.symm, h1, rfl⟩⟩
          · have hb' : b = !want := by cases b <;> cases want <;> simp_all
            have hv := hv.2 hb'
            have he : eget (s.app (some t) (.d (.bool (!want))) []).env = eget s.env := by rw [eget_app, put1_same (hb' ▸ hgv.symm)]
            refine go (f := ⟨[t], o.dst, [], []⟩) (s' := (s.app (some t) (.d (.bool (!want))) []).app o.dst (.d .und) []) (by rw [eget_app, he]) (uget_app _ _ _ _) ?_ hv
            simp only [Acts, hg]
            exact ⟨t, ht, .inr ⟨.inl (hb' ▸ hgv.symm), by simp⟩⟩
        | und =>
          simp only at hv
          refine go (f := ⟨[t], o.dst, [], []⟩) (s' := s.app o.dst (.d .und) []) (eget_app _ _ _ _) (uget_app _ _ _ _) ?_ hv
          simp only [Acts, hg]
          exact ⟨t, ht, .inr ⟨.inr hgv.symm, by simp⟩⟩
        | _ => exact hv.elim
      | _ => rw [hx] at hv; exact hv.elim

end
end Go.Rx
