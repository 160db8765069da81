/-
  Part of the proof that the abstract evaluator is right about the model's run; each lemma names its conditions.
-/
import Derived.Test.YtedopmfciabdcaaRxSound23
namespace Go.Rx
open Go Go.RowKit

/-! ### a region in its order -/

theorem eget_app (s : St) (dst : Option Nat) (v : V) (u : Upd) : eget (s.app dst v u).env = put1 (eget s.env) dst v := by
  funext t
  cases dst with
  | none => simp [St.app, put1]
  | some d =>
    simp only [St.app, eget, put1, Option.some.injEq]
    by_cases h : d = t
    · simp [h]
    · have : (d == t) = false := by simpa using h
      rw [this, if_neg h]; rfl

theorem uget_cons (q : Nat × Option AObj) (H : Upd) : uget (q :: H) = fun n => if q.1 = n then q.2 else uget H n := by
  funext n
  obtain ⟨k, o⟩ := q
  simp only [uget]
  by_cases h : k = n
  · simp [h]
  · have : (k == n) = false := by simpa using h
    rw [this, if_neg h]; rfl

theorem uget_rev (u H : Upd) : uget (u.reverse ++ H) = updF u (uget H) := by
  induction u generalizing H with
  | nil => rfl
  | cons q u ih =>
    rw [List.reverse_cons, List.append_assoc, List.singleton_append, ih, uget_cons]
    rfl

theorem uget_app (s : St) (dst : Option Nat) (v : V) (u : Upd) : uget (s.app dst v u).H = updF u (uget s.H) := uget_rev u s.H

theorem put1_same {e : Nat → V} {t : Nat} {v : V} (h : e t = v) : put1 e (some t) v = e := by
  funext k
  unfold put1
  by_cases hk : t = k
  · subst hk; rw [if_pos rfl, h]
  · rw [if_neg (by simpa using hk)]

theorem guardV_of {all : List Oper} {env : List (Nat × V)} {j : Nat} (h : guardV all env j ≠ .dead) : ∃ t, guardT all j = some t ∧ guardV all env j = eget env t := by
  unfold guardV at h ⊢
  unfold guardT
  cases ha : all[j]? with
  | none => rw [ha] at h; exact absurd rfl h
  | some o =>
    rw [ha] at h
    simp only at h
    simp only [Option.bind_some]
    cases hd : o.dst with
    | none => rw [hd] at h; exact absurd rfl h
    | some t => exact ⟨t, rfl, rfl⟩

section
variable {P : Program} {T : Tys} {okIn U : Nat → Prop} {w0 : World} {N : Slots} {Q : Exit → Act → World → Prop}

def Lt (k n : Nat) : Prop := n < k

theorem fresh_lt (i : Nat) : Fresh (Lt (1000 * (i + 1))) (1000 * (i + 1)) := fun n h1 _ h => by unfold Lt at h; omega

theorem SR.mono {p p' : Nat → Prop} {e : Nat → V} {H : Heap} {a : Act} {w : World} (h : SR okIn U w0 N p e H a w) (hpp : ∀ n, p n → p' n) : SR okIn U w0 N p' e H a w :=
  let ⟨ok, lam, h⟩ := h; ⟨ok, lam, h.mono hpp⟩

theorem nil_eq {t d : Nat} {e : Nat} {A : Option Addr} {l c : Nat} {w : World} (ht : P.underlying t = some (.slice e)) : (Op.equalIn (d + 1) t (.slice A l c) (.slice none 0 0)).run P w = .ok A.isNone w := by
  simp only [Op.equalIn, Sem.run_bind, run_underlying ht, Result.andThen_ok]
  cases A <;> rfl

theorem nil_run {t : Nat} {x y : Operand} {e : Nat} {A : Option Addr} {l c : Nat} {w : World} (ht : P.underlying t = some (.slice e)) :
    (binRun .eql t x y (.slice A l c) (.slice none 0 0)).run P w = .ok (.bool A.isNone) w ∧ (binRun .neq t x y (.slice A l c) (.slice none 0 0)).run P w = .ok (.bool (!A.isNone)) w := by
  have heq : (Op.equal t (.slice A l c) (.slice none 0 0)).run P w = .ok A.isNone w := by
    unfold Op.equal
    exact nil_eq (d := 9999) ht
  refine ⟨?_, ?_⟩
  · unfold binRun
    simp only [Sem.run_bind, guard_other (P := P) (w := w) (op := .eql) (t := t) (x := x) (y := y) (a := .slice A l c) (b := .slice none 0 0) (by simp) (by simp), Result.andThen_ok]
    simp only [binOp, Sem.run_bind, heq, Result.andThen_ok, Sem.run_pure]
  · unfold binRun
    simp only [Sem.run_bind, guard_other (P := P) (w := w) (op := .neq) (t := t) (x := x) (y := y) (a := .slice A l c) (b := .slice none 0 0) (by simp) (by simp), Result.andThen_ok]
    simp only [binOp, Sem.run_bind, heq, Result.andThen_ok, Sem.run_pure]

/-- A slice, asked whether it is nil. -/
theorem nilOf_sound {ok : Nat → Prop} {lam : Nat → Option Nat} {H : Heap} {w : World} {x : V} {v : Value} {S : Bool → Prop} (hx : VRel w ok lam H x v) (hs : nilOf H x = some S) :
    ∃ A l c, v = .slice A l c ∧ S A.isNone := by
  cases x with
  | d y =>
    cases y with
    | sl xs =>
      simp only [nilOf, Option.some.injEq] at hs
      subst hs
      have hy := hx.inv_d
      cases hy with
      | sl0 A c => exact ⟨A, 0, c, rfl, fun _ => rfl⟩
      | sl _ m b o cap vs _ _ _ _ _ _ => exact ⟨_, _, _, rfl, fun h => by simp at h⟩
    | _ => simp [nilOf] at hs
  | own n off len =>
    simp only [nilOf] at hs
    split at hs
    · rename_i m xs hH
      simp only [Option.some.injEq] at hs
      subst hs
      cases hx with | own _ h2 =>
      obtain ⟨_, h | ⟨b, o, cap, cs, T, fr, h1, h2, _⟩⟩ := h2 m xs hH
      · exact ⟨_, _, _, h.2.1, fun _ => h.2.2⟩
      · exact ⟨_, _, _, h2, fun h => by simp at h⟩
    · cases hs
  | nils =>
    simp only [nilOf, Option.some.injEq] at hs
    subst hs
    cases hx
    exact ⟨none, 0, 0, rfl, rfl⟩
  | _ => simp [nilOf] at hs

theorem nd_quiet (hT : TyOK P T) {ok : Nat → Prop} {lam : Nat → Option Nat} {H : Heap} {w : World} {q : Nat → Prop} {op : BinOp} {t : Nat} {x y : Operand} {a b : V} {va vb : Value} {S : Bool → Prop}
    (hs : (bif isSl (T t) then ndBin H op a b else none) = some S) (ha : VRel w ok lam H a va) (hb : VRel w ok lam H b vb) :
    ∃ v, S v ∧ Quiet P w ok lam H q (.d (.bool v)) [] True (binRun op t x y va vb) := by
  cases hsl : isSl (T t) with
  | false => rw [hsl] at hs; cases hs
  | true =>
    rw [hsl] at hs
    simp only [cond_true] at hs
    obtain ⟨e, he⟩ := isSl_und hT hsl
    cases b with
    | nils =>
      cases hb
      simp only [ndBin] at hs
      cases op <;> simp only [reduceCtorEq] at hs
      case eql =>
        obtain ⟨A, l, c, rfl, hS⟩ := nilOf_sound ha hs
        exact ⟨A.isNone, hS, _, (nil_run he).1, rfl, .d (.bool _), fun _ => .d _⟩
      case neq =>
        cases hn : nilOf H a with
        | none => rw [hn] at hs; cases hs
        | some S0 =>
          rw [hn] at hs
          simp only [Option.map_some, Option.some.injEq] at hs
          subst hs
          obtain ⟨A, l, c, rfl, hS⟩ := nilOf_sound ha hn
          exact ⟨!A.isNone, by simpa using hS, _, (nil_run he).2, rfl, .d (.bool _), fun _ => .d _⟩
    | _ => simp [ndBin] at hs

theorem cap_quiet (hT : TyOK P T) {ok : Nat → Prop} {lam : Nat → Option Nat} {H : Heap} {w : World} {q : Nat → Prop} {ts : Array Nat} {ty : Nat} {l : List V} {vs : List Value} {K : OK}
    (hv : capVC H (slTy T ts.toList) l K) (hr : Rel2 (VRel w ok lam H) l vs) :
    ∃ v, K v [] ∧ Quiet P w ok lam H q v [] True (Builtin.cap_ ts ty ⟨vs⟩) := by
  have hty : slTy T ts.toList = true → ∃ t e, ts[0]? = some t ∧ P.underlying t = some (.slice e) := fun h => by
    unfold slTy at h
    cases hh : ts.toList.head? with
    | none => rw [hh] at h; cases h
    | some t =>
      rw [hh] at h
      obtain ⟨e, he⟩ := isSl_und hT (t := t) h
      exact ⟨t, e, by rw [← Array.getElem?_toList, ← List.head?_eq_getElem?]; exact hh, he⟩
  have run : slTy T ts.toList = true → ∀ A n c, (Builtin.cap_ ts ty ⟨[.slice A n c]⟩).run P w = .ok (.int .i64 c) w := fun h A n c => by
    obtain ⟨t, e, h1, h2⟩ := hty h
    simp [Builtin.cap_, h1, run_underlying h2, goInt]
  match l, hv, hr with
  | [.own n off len], hv, hr =>
    obtain ⟨v, rest, rfl, hx, hrest⟩ := hr.uncons
    obtain rfl := hrest.nil_left
    obtain ⟨h1, h2⟩ := hv
    obtain ⟨m, xs, hn, h3⟩ := onArr_inv h2
    cases hx with | own _ g =>
    obtain ⟨_, g | ⟨b, o, cap, cs, T', fr, g1, rfl, g3, _⟩⟩ := g m xs hn
    · obtain ⟨_, rfl, rfl⟩ := g
      exact ⟨_, h3 0 (Nat.le_refl _), _, run h1 _ _ _, rfl, .d (.int _ _), fun _ => .d _⟩
    · exact ⟨_, h3 cap g3, _, run h1 _ _ _, rfl, .d (.int _ _), fun _ => .d _⟩
  | [.d (.sl xs)], hv, hr =>
    obtain ⟨v, rest, rfl, hx, hrest⟩ := hr.uncons
    obtain rfl := hrest.nil_left
    obtain ⟨h1, h3⟩ := hv
    have hy := hx.inv_d
    cases hy with
    | sl0 A c => exact ⟨_, h3 c (Nat.zero_le _), _, run h1 _ _ _, rfl, .d (.int _ _), fun _ => .d _⟩
    | sl _ m b o cap vs hc _ _ _ _ _ => exact ⟨_, h3 cap hc, _, run h1 _ _ _, rfl, .d (.int _ _), fun _ => .d _⟩
  | [.nils], hv, hr =>
    obtain ⟨v, rest, rfl, hx, hrest⟩ := hr.uncons
    obtain rfl := hrest.nil_left
    obtain ⟨h1, h3⟩ := hv
    cases hx
    exact ⟨_, h3, _, run h1 _ _ _, rfl, .d (.int _ _), fun _ => .d _⟩

theorem step_sound (hT : TyOK P T) {p : Nat → Prop} {e : Nat → V} {H : Heap} {a : Act} {w : World} (h : SR okIn U w0 N p e H a w) {ops : Array Oper} {i : Nat} {o : Oper} (hi : ops[i]? = some o) (hg : o.guard = none) (hd : ∀ d, o.dst = some d → N.can d) {K' : OK}
    (hv : stepVC T P i o (evF e) H K') :
    opVC T P i o (evF e) H K' ∨ ∃ v, K' v [] ∧ ∀ {K : Act → World → Prop}, (∀ a' w', SR okIn U w0 N (pX p (1000 * (i + 1))) (put1 e o.dst v) H a' w' → K a' w') → wpOp P ops Q i K a w := by
  obtain ⟨ok, lam, h⟩ := h
  have fin : ∀ {v : V} {s : Sem Value}, execOp a.eval o = (do pure (.value (← s))) → K' v [] → Quiet P w ok lam H p v [] True s →
      ∃ v, K' v [] ∧ ∀ {K : Act → World → Prop}, (∀ a' w', SR okIn U w0 N (pX p (1000 * (i + 1))) (put1 e o.dst v) H a' w' → K a' w') → wpOp P ops Q i K a w := fun {v s} he hk hq => by
    refine ⟨v, hk, fun {K} hK => ?_⟩
    have h1 := wp_value (Q := Q) (o := o) he (Quiet.does (tb := 1000 * (i + 1)) h.ctx trivial hq)
    unfold wpOp
    rw [hi]
    simp only [Region.wanted, hg, if_true]
    exact .inl (Oper.wp_mono (fun a' w' ⟨cv, lam', ok', ha, hE⟩ => hK a' w' ⟨ok', lam', by rw [ha]; exact h.step (fun n hn => .inl hn) hd hE⟩) h1)
  obtain ⟨dst, op, ty, pos, after, guard⟩ := o
  cases op with
  | binOp op t x y u =>
    have hv : onNd (bif isSl (T t) then ndBin H op (evF e x) (evF e y) else none) K' (opVC T P i ⟨dst, .binOp op t x y u, ty, pos, after, guard⟩ (evF e) H K') := hv
    cases hs : (bif isSl (T t) then ndBin H op (evF e x) (evF e y) else none) with
    | none => rw [hs] at hv; exact .inl hv
    | some S =>
      rw [hs] at hv
      obtain ⟨v, h1, h2⟩ := nd_quiet (q := p) (x := x) (y := y) hT hs (h.ev x) (h.ev y)
      exact .inr (fin (s := binRun op t x y (a.eval x) (a.eval y)) rfl (hv v h1) h2)
  | call c =>
    obtain ⟨callee, args, ts⟩ := c
    cases callee with
    | builtin b =>
      cases b with
      | cap =>
        have hv : capVC H (slTy T ts.toList) (args.toList.map (evF e)) K' := hv
        obtain ⟨v, h1, h2⟩ := cap_quiet (q := p) (ty := ty) hT hv (vs := (args.map a.eval).toList) (rel_args h.ev args)
        exact .inr (fin (s := Builtin.cap_ ts ty (args.map a.eval)) (by simp only [execOp, resolve, pure_bind, invoke]; rfl) h1 h2)
      | _ => exact .inl hv
    | _ => exact .inl hv
  | _ => exact .inl hv

theorem seq_sound (hT : TyOK P T) {ops : Array Oper} (hdst : ∀ o ∈ ops.toList, ∀ d, o.dst = some d → N.can d) {K : St → Prop}
    (hQ : ∀ s a w, SR okIn U w0 N (fun _ => True) (eget s.env) (uget s.H) a w → K s → Q .normal a w) :
    ∀ (l : List Oper) (i : Nat) (s : St) (a : Act) (w : World), ops.toList.drop i = l → SR okIn U w0 N (Lt (1000 * (i + 1))) (eget s.env) (uget s.H) a w →
      seqVC T P ops.toList i l s K → wpOps P ops Q (List.range' i l.length) a w := by
  intro l
  induction l with
  | nil => intro i s a w _ h hv; exact hQ s a w (h.mono fun _ _ => trivial) hv
  | cons o l ih =>
    intro i s a w hl h hv
    have hi : ops[i]? = some o := by
      have := List.getElem?_drop (xs := ops.toList) (i := i) (j := 0)
      rw [hl] at this
      rw [← Array.getElem?_toList]
      simpa using this.symm
    have hl' : ops.toList.drop (i + 1) = l := by rw [← List.drop_drop, hl]; rfl
    have ho : o ∈ ops.toList := by rw [← Array.getElem?_toList] at hi; exact List.mem_of_getElem? hi
    simp only [List.length_cons, List.range'_succ, wpOps_cons]
    have go : ∀ {s' : St} {v : V} {u : Upd} {f : Foot}, eget s'.env = put1 (eget s.env) o.dst v → uget s'.H = updF u (uget s.H) →
        Acts T P ops.toList i o (eget s.env) (uget s.H) v u f → seqVC T P ops.toList (i + 1) l s' K → wpOp P ops Q i (wpOps P ops Q (List.range' (i + 1) l.length)) a w := by
      intro s' v u f he hH hA hs
      refine acts_wp hT h hi (fresh_lt i) (hdst o ho) hA fun a' w' h' => ih (i + 1) s' a' w' hl' ?_ hs
      rw [he, hH]
      refine h'.mono fun n hn => ?_
      unfold pX Lt at hn
      unfold Lt
      omega
    simp only [seqVC] at hv
    cases hg : o.guard with
    | none =>
      rw [hg] at hv
      simp only at hv
      rw [ev_evF] at hv
      rcases step_sound (Q := Q) hT h hi hg (hdst o ho) hv with hv | ⟨v, hk, hstep⟩
      · obtain ⟨v, u, h1, h2⟩ := op_wit _ hv
        refine go (f := ⟨tmpsOf o, o.dst, rdN o (evF (eget s.env)) (uget s.H), u.map (·.1)⟩) (eget_app s o.dst v u) (uget_app s o.dst v u) ?_ h2
        simp only [Acts, hg]
        exact ⟨h1, trivial⟩
      · refine hstep fun a' w' h' => ih (i + 1) _ a' w' hl' ?_ hk
        rw [eget_app, uget_app]
        refine h'.mono fun n hn => ?_
        unfold pX Lt at hn
        unfold Lt
        omega
    | some q =>
      obtain ⟨j, want⟩ := q
      rw [hg] at hv
      simp only at hv
      have hne : guardV ops.toList s.env j ≠ .dead := by intro h; rw [h] at hv; exact hv
      obtain ⟨t, ht, hgv⟩ := guardV_of hne
      rw [ht] at hv
      cases hx : guardV ops.toList s.env j with
      | d y =>
        rw [hx] at hv
        rw [hx] at hgv
        cases y with
        | bool b =>
          simp only at hv
          by_cases hb : b = want
          · have hv := hv.1 hb
            subst hb
            have he : eget (s.app (some t) (.d (.bool b)) []).env = eget s.env := by rw [eget_app, put1_same hgv.symm]
            rw [ev_evF, he] at hv
            obtain ⟨v, u, h1, h2⟩ := op_wit _ hv
            refine go (f := ⟨t :: tmpsOf o, o.dst, rdN o (evF (eget s.env)) (uget s.H), u.map (·.1)⟩) (s' := (s.app (some t) (.d (.bool b)) []).app o.dst v u) (by rw [eget_app, he]) (uget_app _ _ _ _) ?_ h2
            simp only [Acts, hg]
            exact ⟨t, ht, .inl ⟨hgv.symm, h1, rfl⟩⟩
          · have hb' : b = !want := by cases b <;> cases want <;> simp_all
            have hv := hv.2 hb'
            have he : eget (s.app (some t) (.d (.bool (!want))) []).env = eget s.env := by rw [eget_app, put1_same (hb' ▸ hgv.symm)]
            refine go (f := ⟨[t], o.dst, [], []⟩) (s' := (s.app (some t) (.d (.bool (!want))) []).app o.dst (.d .und) []) (by rw [eget_app, he]) (uget_app _ _ _ _) ?_ hv
            simp only [Acts, hg]
            exact ⟨t, ht, .inr ⟨.inl (hb' ▸ hgv.symm), by simp⟩⟩
        | und =>
          simp only at hv
          refine go (f := ⟨[t], o.dst, [], []⟩) (s' := s.app o.dst (.d .und) []) (eget_app _ _ _ _) (uget_app _ _ _ _) ?_ hv
          simp only [Acts, hg]
          exact ⟨t, ht, .inr ⟨.inr hgv.symm, by simp⟩⟩
        | _ => exact hv.elim
      | _ => rw [hx] at hv; exact hv.elim

end
end Go.Rx
