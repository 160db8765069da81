/-
  Part of the proof that the abstract evaluator is right about the model's run; each lemma names its conditions.
-/
import Derived.Test.YtedopmfciabdcaaRxSound28
namespace Go.Rx
open Go Go.RowKit

/-! ### functions -/

theorem load_asAddr {P : Program} {w : World} {ty : Nat} {z cv : Value} (h : (Instr.loadAt ty z).run P w = .ok cv w) : (do loadVar ty (← asAddr z)).run P w = .ok cv w := by
  unfold Instr.loadAt at h
  cases z with
  | pointer A => cases A with
    | some A => simpa [Instr.sureAddr, asAddr] using h
    | none => simp [Instr.sureAddr, stuck, Sem.run_bind, Sem.run, Result.andThen] at h
  | _ => simp [Instr.sureAddr, stuck, Sem.run_bind, Sem.run, Result.andThen] at h

theorem res_sound {P : Program} {T : Tys} (hT : TyOK P T) {okIn U : Nat → Prop} {w0 : World} {N : Slots} {p : Nat → Prop} {s : St} {a : Act} {w : World} {ok : Nat → Prop} {lam : Nat → Option Nat}
    (h : SRo okIn U w0 N p (eget s.env) (uget s.H) a w ok lam) {f : ResultVar → Sem Value} (hf : ∀ t, f (.tmp t) = pure (a.tmps.getD t undef)) (hc : ∀ t ty, f (.cell t ty) = do loadVar ty (← asAddr (a.tmps.getD t undef))) :
    ∀ {rs : List ResultVar} {K : List V → Prop}, resK T s rs K → ∃ vs cvs, K vs ∧ (rs.mapM (m := Sem) f).run P w = .ok cvs w ∧ Rel2 (VRel w ok lam (uget s.H)) vs cvs
  | [], K, hK => ⟨[], [], hK, rfl, Rel2.nil _⟩
  | .tmp t :: rs, K, hK => by
    obtain ⟨vs, cvs, h1, h2, h3⟩ := res_sound hT h hf hc (rs := rs) hK
    refine ⟨_, a.tmps.getD t undef :: cvs, h1, ?_, ⟨by simp [h3.1], fun i x y hx hy => ?_⟩⟩
    · rw [List.mapM_cons, hf]; simp [h2]
    · cases i with
      | zero => simp only [List.getElem?_cons_zero, Option.some.injEq] at hx hy; subst hx; subst hy; exact h.rel t
      | succ i => exact h3.2 i x y (by simpa using hx) (by simpa using hy)
  | .cell t ty :: rs, K, hK => by
    obtain ⟨v, u, hl, hr⟩ := wit_load _ hK
    obtain ⟨vs, cvs, h1, h2, h3⟩ := res_sound hT h hf hc (rs := rs) hr
    obtain ⟨cv, hrun, _, hv, _⟩ := load_sound (q := p) hT h.ctx.hok (h.rel t) hl
    refine ⟨_, cv :: cvs, h1, ?_, ⟨by simp [h3.1], fun i x y hx hy => ?_⟩⟩
    · have hl' : (f (.cell t ty)).run P w = .ok cv w := by rw [hc]; exact load_asAddr hrun
      rw [List.mapM_cons]
      simp [Sem.run_bind, h2, hl']
    · cases i with
      | zero => simp only [List.getElem?_cons_zero, Option.some.injEq] at hx hy; subst hx; subst hy; exact hv
      | succ i => exact h3.2 i x y (by simpa using hx) (by simpa using hy)

def oneV : List Value → Value
  | [v] => v
  | vs => .tuple ⟨vs⟩

theorem one_rel {w : World} {ok : Nat → Prop} {lam : Nat → Option Nat} {H : Heap} {vs : List V} {cvs : List Value} (h : Rel2 (VRel w ok lam H) vs cvs) :
    VRel w ok lam H (one vs) (oneV cvs) := by
  match vs, cvs, h with
  | [v], [cv], h => exact h.2 0 _ _ rfl rfl
  | [], [], h => exact VRel.mkTup h
  | _ :: _ :: _, _ :: _ :: _, h => exact VRel.mkTup h
  | [], _ :: _, h => have := h.1; simp at this
  | [_], [], h => have := h.1; simp at this
  | [_], _ :: _ :: _, h => have := h.1; simp at this
  | _ :: _ :: _, [], h => have := h.1; simp at this
  | _ :: _ :: _, [_], h => have := h.1; simp at this

theorem results_run {P : Program} {fn : Func} {tmps : Array Value} {w : World} {cvs : List Value} {f : ResultVar → Sem Value}
    (hf : ∀ t, f (.tmp t) = pure (tmps.getD t undef)) (hc : ∀ t ty, f (.cell t ty) = do loadVar ty (← asAddr (tmps.getD t undef)))
    (h : (fn.results.toList.mapM (m := Sem) f).run P w = .ok cvs w) :
    (results fn tmps).run P w = .ok (oneV cvs) w := by
  unfold results
  rw [Array.mapM_eq_mapM_toList]
  refine Eq.trans (b := ((do let vs ← List.toArray <$> fn.results.toList.mapM (m := Sem) f; pure (if h : vs.size = 1 then vs[0] else .tuple vs)) : Sem Value).run P w) ?_ ?_
  · congr 4
    funext r
    cases r with
    | tmp t => rw [hf]
    | cell a t => rw [hc]
  · rw [map_eq_pure_bind, Sem.run_bind, Sem.run_bind, h]
    match cvs with
    | [] => rfl
    | [v] => rfl
    | _ :: _ :: _ => rfl

def startE : Nat → List V → List (Nat × V)
  | _, [] => []
  | i, v :: l => (i, v) :: startE (i + 1) l

theorem eget_start : ∀ (l : List V) (i t : Nat), eget (startE i l) (i + t) = (l[t]?).getD .dead
  | [], i, t => by simp [startE, eget]
  | v :: l, i, t => by
    simp only [startE, eget]
    cases t with
    | zero => simp
    | succ t =>
      have h : (i == i + (t + 1)) = false := by simp
      rw [h, cond_false]
      have := eget_start l (i + 1) t
      rw [show i + (t + 1) = i + 1 + t by omega, this]
      simp

def start (args : List V) (H : List (Nat × AObj)) : St := ⟨startE 0 args, H.map fun p => (p.1, some p.2)⟩

/-- What a call of f comes to. -/
def retK (rs : List ResultVar) (np : List Bool) (T : Tys) (outs : List V) (res : V) (H' : List (Nat × AObj)) : Exit → St → Prop
  | .normal, s | .ret, s => resK T s rs fun vs => leaves np s (one vs) = (outs, res, H')
  | _, _ => False

def canSlot (n : Nat) (np : List Bool) (d : Nat) : Bool := Nat.blt d n && !(np.getD d false)

theorem outs_at (env : List (Nat × V)) : ∀ (np : List Bool) (i j : Nat) x, (outsV env i np)[j]? = some x → (np[j]? = some true ∧ x = eget env (i + j)) ∨ x = .dead
  | [], i, j, x, h => by simp [outsV] at h
  | b :: np, i, j, x, h => by
    simp only [outsV] at h
    cases j with
    | zero =>
      simp at h; subst h
      cases b
      · exact .inr rfl
      · exact .inl ⟨rfl, rfl⟩
    | succ j =>
      simp at h
      rcases outs_at env np (i + 1) j x h with ⟨h1, h2⟩ | h2
      · exact .inl ⟨by simpa using h1, by rw [h2]; congr 1; omega⟩
      · exact .inr h2

theorem call_of {P : Program} {T : Tys} (hT : TyOK P T) (hm : P.follows .mixedOrders = true) {f : FuncId} {fn : Func} {c : Code} (hf : P.funcs[f]? = some fn) (hname : (fn.name == "runtime.NumGoroutine") = false) (hb : fn.body = some c)
    {np : List Bool} (hd : codeDst (canSlot fn.ntmps np) c = true) (hr hl : Hints) {args : List V} {H : List (Nat × AObj)} {outs : List V} {res : V} {H' : List (Nat × AObj)}
    (hlen : args.length ≤ fn.ntmps)
    (hv : cVC T P hr hl c (start args H) (retK fn.results.toList np T outs res H')) : CallOK P f args H outs res H' := by
  refine ⟨⟨fn, hf, hname, by rw [hb]; rfl⟩, fun w vs lam ok hk hal hargs => ?_⟩
  refine calls_of_wp hf hb ?_
  let U : Nat → Prop := fun b => ∃ n, hget H n ≠ none ∧ lam n = some b
  let a0 : Act := { tmps := ⟨vs⟩ ++ Array.replicate (fn.ntmps - (⟨vs⟩ : Array Value).size) undef, defers := [] }
  let N : Slots := { size := fn.ntmps, pin := fun t => np.getD t false, val := fun t => a0.tmps.getD t undef }
  have hcan : ∀ d, canSlot fn.ntmps np d = true → N.can d := fun d h => by
    simp only [canSlot, Bool.and_eq_true, Nat.blt_eq, Bool.not_eq_true'] at h
    exact h
  have hsz : vs.length ≤ fn.ntmps := by omega
  have ha0 : ∀ t, a0.tmps.getD t undef = (vs[t]?).getD undef := fun t => by
    show ((⟨vs⟩ : Array Value) ++ Array.replicate (fn.ntmps - vs.length) undef).getD t undef = _
    simp only [Array.getD_eq_getD_getElem?]
    rw [Array.getElem?_append]
    by_cases ht : t < vs.length
    · simp [ht]
    · simp only [List.size_toArray, ht, if_false]
      rw [List.getElem?_eq_none (by omega), Array.getElem?_replicate]
      split <;> rfl
  have hE : ∀ t, eget (start args H).env t = (args[t]?).getD .dead := fun t => by
    have := eget_start args 0 t
    rwa [Nat.zero_add] at this
  have hH : uget (start args H).H = hget H := uget_map H
  have hs : SRs ok U w N (start args H) a0 w := by
    refine ⟨ok, lam, ?_, fun t => ?_, fun t => VGood.all _, ?_, fun t _ => rfl, rfl, Fr.refl _ _⟩
    · rw [hH]
      exact ⟨hk, fun n o _ => by cases o with | box c => exact fun v _ => VGood.all v | arr => trivial, fun _ _ => trivial, fun b hb => .inl hb, fun n b hn hb => .inl ⟨n, hn, hb⟩, Nat.le_refl _⟩
    · rw [hH, hE, ha0]
      cases hx : args[t]? with
      | none => exact .dead
      | some x =>
        have ht : t < vs.length := by have := (List.getElem?_eq_some_iff.1 hx).1; omega
        have hv : vs[t]? = some vs[t] := List.getElem?_eq_getElem ht
        rw [hv]
        exact hargs t x _ hx hv
    · show ((⟨vs⟩ : Array Value) ++ Array.replicate (fn.ntmps - vs.length) undef).size = fn.ntmps
      simp; omega
  refine code_sound hT hcan hm hr hl c hd (fun e s a w' h hK => ?_) hs hv
  have fin : (resK T s fn.results.toList fun vs => leaves np s (one vs) = (outs, res, H')) → a.defers = [] ∧ ∃ v, (results fn a.tmps).run P w' = .ok v w' ∧ ∃ v' lam' ok', Ending.returned v = .returned v' ∧ Fr U w w' ∧ HOK w' ok' lam' (hget H') ∧
      VRel w' ok' lam' (hget H') res v' ∧ (∀ (i : Nat) x v, outs[i]? = some x → vs[i]? = some v → VRel w' ok' lam' (hget H') x v) ∧
      (∀ b, ok' b → ok b ∨ (∃ n, hget H n ≠ none ∧ lam n = some b) ∨ w.heap.size ≤ b) ∧
      (∀ n b, hget H' n ≠ none → lam' n = some b → (∃ n', hget H n' ≠ none ∧ lam n' = some b) ∨ w.heap.size ≤ b) := by
    intro hlv
    obtain ⟨ok1, lam1, h⟩ := h
    obtain ⟨rvs, cvs, hlv, hrun, hrel⟩ := res_sound hT h (f := fun | .tmp t => pure (a.tmps.getD t undef) | .cell b t => do loadVar t (← asAddr (a.tmps.getD b undef))) (fun _ => rfl) (fun _ _ => rfl) hlv
    simp only [leaves, Prod.mk.injEq] at hlv
    obtain ⟨hl1, hl2, hl3⟩ := hlv
    have hnd := order_nodup (uget s.H) (outsV s.env 0 np ++ [one rvs])
    generalize order (uget s.H) (outsV s.env 0 np ++ [one rvs]) = o at hl1 hl2 hl3 hnd
    have hc := h.ctx.idx hnd (q := fun _ => True) (fun _ _ => trivial)
    have hren := ren_idx (uget s.H) lam1 o
    rw [hl3] at hc hren
    refine ⟨h.defers, _, results_run (f := fun | .tmp t => pure (a.tmps.getD t undef) | .cell b t => do loadVar t (← asAddr (a.tmps.getD b undef))) (fun _ => rfl) (fun _ _ => rfl) hrun, _, _, ok1, rfl, ⟨h.fr.os, h.fr.tape, h.fr.output, h.fr.size, fun k hk hn => h.fr.block k hk (by rintro (h1 | h1); exact hn h1; omega), h.fr.sized⟩, hc.hok, ?_, fun i x v hx hv => ?_, h.ctx.okb, hc.ownb⟩
    · rw [← hl2]
      refine renV_rel hren ?_
      exact one_rel hrel
    · rw [← hl1, List.getElem?_map] at hx
      cases hx' : (outsV s.env 0 np)[i]? with
      | none => rw [hx'] at hx; simp at hx
      | some y =>
        rw [hx'] at hx; simp at hx; subst hx
        rcases outs_at s.env np 0 i y hx' with ⟨h1, h2⟩ | h2
        · rw [Nat.zero_add] at h2
          subst h2
          refine renV_rel hren ?_
          have hpin := h.pin i (by show np.getD i false = true; rw [List.getD_eq_getElem?_getD, h1]; rfl)
          have := h.rel i
          rw [hpin] at this
          have he : N.val i = v := by
            show a0.tmps.getD i undef = v
            rw [ha0, hv]; rfl
          rwa [he] at this
        · subst h2; exact .dead
  cases e with
  | normal => exact fin hK
  | ret => exact fin hK
  | _ => exact hK.elim

end Go.Rx
