/-
  Part of the proof that the abstract evaluator is right about the model's run; each lemma names its conditions.
-/
import Derived.Test.YtedopmfciabdcaaRxSound5
namespace Go.Rx
open Go Go.RowKit

section
variable {P : Program} {T : Tys} {w : World} {ok : Nat → Prop} {lam : Nat → Option Nat} {H : Heap} {q : Nat → Prop} {v0 : V} {u0 : Upd}

theorem kindT_at (hT : TyOK P T) {t : Nat} {k : TK} (h : kindT T t = k) (hk : k ≠ .other) : ∃ i info d z, T t = some i ∧ i.kind = k ∧ TyAt P t i info d z := by
  unfold kindT at h
  cases hi : T t with
  | none => simp [hi] at h; exact absurd h.symm hk
  | some i => simp [hi] at h; obtain ⟨info, d, z, ha⟩ := hT t i hi; exact ⟨i, info, d, z, rfl, h, ha⟩

theorem eqlVC_sound {op : BinOp} {t : Nat} {a b : Value} {r : Bool} (hr : (Op.equal t a b).run P w = .ok r w) (hn : binOp .eql t a b = (do pure (.bool (← Op.equal t a b)))) (hm : binOp .neq t a b = (do pure (.bool (!(← Op.equal t a b)))))
    (hg : ∀ x y op, (eqGuard op t x y a b).run P w = .ok () w) {x y : Operand} (h : eqlVC op r (eqK v0 u0)) : Quiet P w ok lam H q v0 u0 True (binRun op t x y a b) := by
  unfold Quiet binRun
  cases op <;> simp only [eqlVC] at h
  case eql => obtain ⟨rfl, rfl⟩ := h; exact ⟨.bool r, by simp [hg, hn, hr], rfl, .d (.bool _), fun _ => .d _⟩
  case neq => obtain ⟨rfl, rfl⟩ := h; exact ⟨.bool (!r), by simp [hg, hm, hr], rfl, .d (.bool _), fun _ => .d _⟩

theorem scal_sound {x : V} {xv : Value} {xs : List D} (hx : VRel w ok lam H x xv) (hs : scal x = some xs) : ∃ cs, xv = .agg ⟨cs⟩ ∧ Rel2 (DRel w ok) xs cs := by
  cases x with
  | agg vs =>
    obtain ⟨cs, rfl, hr⟩ := hx.inv_agg
    refine ⟨cs, rfl, ?_⟩
    simp only [scal] at hs
    clear hx
    induction vs generalizing xs cs with
    | nil => rw [hr.nil_left]; simp [scalL] at hs; subst hs; exact Rel2.nil _
    | cons v vs ih =>
      obtain ⟨c, m, rfl, hvc, hm⟩ := hr.uncons
      cases v with
      | d y =>
        simp only [scalL] at hs
        cases hq : scalL vs with
        | none => simp [hq] at hs
        | some ys =>
          simp [hq] at hs
          subst hs
          exact Rel2.cons hvc.inv_d (ih hq _ hm)
      | _ => simp [scalL] at hs
  | d y =>
    cases y with
    | agg ds => simp [scal] at hs; subst hs; exact ofD_agg hx.inv_d
    | _ => simp [scal] at hs
  | _ => simp [scal] at hs

theorem eqT_sound (hT : TyOK P T) {dd : Nat} {ft : Nat} {x y : D} {xv yv : Value} {r : Bool} (hx : DRel w ok x xv) (hy : DRel w ok y yv) (h : eqT (kindT T ft) x y = some r) :
    (Op.equalIn (dd + 1) ft xv yv).run P w = .ok r w ∧ ∃ i info d z, T ft = some i ∧ TyAt P ft i info d z ∧ i.kind.isRow = false := by
  cases hk : kindT T ft with
  | int k' =>
    obtain ⟨i, info, d, z, hi, hik, ha⟩ := kindT_at hT hk (by simp)
    obtain rfl := kindOK_int (hik ▸ ha.kind)
    rw [hk] at h
    cases x <;> cases y <;> simp only [eqT] at h <;> try (simp at h; done)
    rename_i k a k2 b
    split at h
    · rename_i hkk; subst hkk; cases hx; cases hy
      simp at h; subst h
      exact ⟨by rw [run_equalIn_int w dd ft _ _ _ _ ha.und]; rfl, i, info, _, z, hi, ha, by rw [hik]; rfl⟩
    · simp at h
  | bool =>
    obtain ⟨i, info, d, z, hi, hik, ha⟩ := kindT_at hT hk (by simp)
    rw [hk] at h
    have hd : d = .bool := by have := ha.kind; rw [hik] at this; cases d <;> simp [kindOK] at this; rfl
    subst hd
    cases x <;> cases y <;> simp only [eqT] at h <;> try (simp at h; done)
    cases hx; cases hy
    simp at h; subst h
    exact ⟨run_equalIn_bool' w dd ft _ _ ha.und, i, info, _, z, hi, ha, by rw [hik]; rfl⟩
  | str =>
    obtain ⟨i, info, d, z, hi, hik, ha⟩ := kindT_at hT hk (by simp)
    obtain rfl := kindOK_str (hik ▸ ha.kind)
    rw [hk] at h
    cases x <;> cases y <;> simp only [eqT] at h <;> try (simp at h; done)
    cases hx; cases hy
    simp at h; subst h
    refine ⟨?_, i, info, _, z, hi, ha, by rw [hik]; rfl⟩
    rw [run_equalIn_string w dd ft _ _ ha.und, toList_mk, toList_mk]
    congr 1
    rw [Bool.eq_iff_iff]; simp
  | _ => rw [hk] at h; simp [eqT] at h

theorem part_run {ft off : Nat} {cs : List Value} {c : Value} {i : TI} {info : TypeInfo} {d : TypeDesc} {z : Value} (ha : TyAt P ft i info d z) (hr : i.kind.isRow = false) (hc : cs[off]? = some c) :
    (part ft ⟨cs⟩ off).run P w = .ok c w := by
  have : (⟨cs⟩ : Array Value)[off]? = some c := by simpa using hc
  simp [part, ha.run_isAgg, hr, this]

theorem eqFs_sound (hT : TyOK P T) (dd : Nat) {xs ys : List D} {cs cs' : List Value} (hx : Rel2 (DRel w ok) xs cs) (hy : Rel2 (DRel w ok) ys cs') :
    ∀ (fs : List Go.Field) (r : Bool), eqFs T (fs.map fun f => (f.offset, f.type)) xs ys = some r → (∀ f ∈ fs, f.name ≠ "_") → (Op.eqFields (dd + 1) ⟨cs⟩ ⟨cs'⟩ fs).run P w = .ok r w := by
  intro fs
  induction fs with
  | nil => intro r h _; simp [eqFs] at h; subst h; simp [Op.eqFields]
  | cons f fs ih =>
    intro r h hn
    simp only [List.map_cons, eqFs] at h
    cases ha : eqO (kindT T f.type) xs[f.offset]? ys[f.offset]? with
    | none => rw [ha] at h; simp [andO] at h
    | some a =>
      cases hb : eqFs T (fs.map fun f => (f.offset, f.type)) xs ys with
      | none => rw [ha, hb] at h; simp [andO] at h
      | some b =>
        rw [ha, hb] at h
        simp [andO] at h
        subst h
        cases hxo : xs[f.offset]? with
        | none => rw [hxo] at ha; simp [eqO] at ha
        | some x =>
          cases hyo : ys[f.offset]? with
          | none => rw [hxo, hyo] at ha; simp [eqO] at ha
          | some y =>
            rw [hxo, hyo] at ha
            simp only [eqO] at ha
            obtain ⟨c, hc, hxc⟩ := hx.get hxo
            obtain ⟨c', hc', hyc⟩ := hy.get hyo
            obtain ⟨hrun, i, info, d, z, hi, hta, hrow⟩ := eqT_sound hT (dd := dd) hxc hyc ha
            have hname := hn f List.mem_cons_self
            simp only [Op.eqFields, ne_eq, hname, not_false_eq_true, if_true, Sem.run_bind, part_run (w := w) hta hrow hc, part_run (w := w) hta hrow hc', Result.andThen_ok, hrun]
            cases a with
            | false => simp
            | true => simp only [Bool.not_true, Bool.false_eq_true, if_false, Bool.true_and]; exact ih b hb fun f hf => hn f (List.mem_cons_of_mem _ hf)

theorem bin_sound (hT : TyOK P T) {op : BinOp} {t : Nat} {xo yo : Operand} {x y : V} {xv yv : Value} (hx : VRel w ok lam H x xv) (hy : VRel w ok lam H y yv)
    (h : binVC T t op x y (eqK v0 u0)) : Quiet P w ok lam H q v0 u0 True (binRun op t xo yo xv yv) := by
  have agg : ∀ {x y : V}, VRel w ok lam H x xv → VRel w ok lam H y yv → aggVC T op (kindT T t) (scal x) (scal y) (eqK v0 u0) → Quiet P w ok lam H q v0 u0 True (binRun op t xo yo xv yv) := by
    intro x y hx hy h
    cases hk : kindT T t with
    | struct fs =>
      cases hsx : scal x with
      | none => rw [hk, hsx] at h; simp [aggVC] at h
      | some xs =>
        cases hsy : scal y with
        | none => rw [hk, hsx, hsy] at h; simp [aggVC] at h
        | some ys =>
          rw [hk, hsx, hsy] at h
          simp only [aggVC] at h
          cases he : eqFs T fs xs ys with
          | none => rw [he] at h; simp [onSome] at h
          | some r =>
            rw [he] at h
            simp only [onSome] at h
            obtain ⟨cs, rfl, hrx⟩ := scal_sound hx hsx
            obtain ⟨cs', rfl, hry⟩ := scal_sound hy hsy
            obtain ⟨i, info, d, z, hi, hik, ha⟩ := kindT_at hT hk (by simp)
            obtain ⟨fl, rfl, hfl⟩ := kindOK_struct (hik ▸ ha.kind)
            obtain ⟨e1, e2, e3⟩ := ha.eqs fl rfl
            have hfo : P.fieldsOf t = fl := by unfold Program.fieldsOf; rw [ha.und]
            refine eqlVC_sound (r := r) ?_ rfl rfl (fun x y op => run_eqGuard_agg w op t x y _ _ e2) h
            unfold Op.equal
            rw [show Op.maxDepth = 9998 + 1 + 1 from rfl, run_equalIn_agg w (9998 + 1) t _ _ (by rw [hfo]; exact ha.und) e1, hfo]
            exact eqFs_sound hT 9998 hrx hry fl.toList r (by rw [hfl]; exact he) e3
    | _ => rw [hk] at h; simp [aggVC] at h
  have ptr : ∀ {r : Bool} {a b : Value}, ptrVC op r (kindT T t) (eqK v0 u0) → (∀ e, (P.underlying t = some (.pointer e) → (Op.equal t a b).run P w = .ok r w)) → (∀ c, a ≠ .agg c) → a ≠ .nilIface →
      binOp .eql t a b = (do pure (.bool (← Op.equal t a b))) → binOp .neq t a b = (do pure (.bool (!(← Op.equal t a b)))) → Quiet P w ok lam H q v0 u0 True (binRun op t xo yo a b) := by
    intro r a b h hr h1 h2 h3 h4
    cases hk : kindT T t with
    | ptr =>
      rw [hk] at h
      obtain ⟨i, info, d, z, hi, hik, ha⟩ := kindT_at hT hk (by simp)
      have hd : ∃ e, d = .pointer e := by have := ha.kind; rw [hik] at this; cases d <;> simp [kindOK] at this; exact ⟨_, rfl⟩
      obtain ⟨e, rfl⟩ := hd
      exact eqlVC_sound (hr e ha.und) h3 h4 (fun x y op => guard_other h2 h1) h
    | _ => rw [hk] at h; simp [ptrVC] at h
  have pnil : ∀ (e : Nat) (a b : Option Addr) (r : Bool), P.underlying t = some (.pointer e) → (a = none ∧ b.isNone = r ∨ b = none ∧ a.isSome = true ∧ r = false) → (Op.equal t (.pointer a) (.pointer b)).run P w = .ok r w := by
    intro e a b r hu hab
    have key : ∀ n, (Op.equalIn (n + 1) t (.pointer a) (.pointer b)).run P w = .ok r w := by
     intro n
     simp only [Op.equalIn, Sem.run_bind, run_underlying hu, Result.andThen_ok]
     rcases hab with ⟨rfl, rfl⟩ | ⟨rfl, h2, rfl⟩
     · cases b <;> rfl
     · cases a with
       | none => simp at h2
       | some a => rfl
    exact key 9999
  unfold binVC at h
  split at h
  · cases hx.inv_d; cases hy.inv_d; exact int_sound h.1 h.2
  · cases hx.inv_d; cases hy.inv_d; exact str_sound h
  · rename_i a b
    cases he : eqT (kindT T t) (.bool a) (.bool b) with
    | none => rw [he] at h; simp [onSome] at h
    | some r =>
      rw [he] at h
      have hr := (eqT_sound (P := P) hT (dd := 9999) hx.inv_d hy.inv_d he).1
      cases hx.inv_d; cases hy.inv_d
      exact eqlVC_sound (r := r) hr rfl rfl (fun x y op => guard_other (by simp) (by simp)) h
  · cases hx.inv_d; cases hy.inv_d
    exact ptr h (fun e hu => pnil e _ _ _ hu (.inl ⟨rfl, rfl⟩)) (by simp) (by simp) rfl rfl
  · cases hx.inv_d with | ptr _ b o f hb hv hd =>
    cases hy.inv_d
    exact ptr h (fun e hu => pnil e _ _ _ hu (.inr ⟨rfl, rfl, rfl⟩)) (by simp) (by simp) rfl rfl
  · exact agg hx hy h

end
end Go.Rx
