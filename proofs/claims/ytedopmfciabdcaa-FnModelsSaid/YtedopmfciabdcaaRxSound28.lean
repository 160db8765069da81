/-
  Part of the proof that the abstract evaluator is right about the model's run; each lemma names its conditions.
-/
import Derived.Test.YtedopmfciabdcaaRxSound27
namespace Go.Rx
open Go Go.RowKit

/-! ### a state made ready -/

theorem nodup_cons {n : Nat} {l : List Nat} (h1 : n ∉ l) (h2 : nodup l = true) : nodup (n :: l) = true := by
  simp [nodup, h1, h2]

theorem nodup_iff : ∀ {l : List Nat}, nodup l = true ↔ l.Nodup
  | [] => by simp [nodup]
  | n :: l => by
    simp only [nodup, Bool.and_eq_true, Bool.not_eq_true', List.nodup_cons]
    rw [nodup_iff]
    simp

theorem dd_nodup : ∀ {l acc : List Nat}, acc.Nodup → (dd acc l).Nodup
  | [], acc, h => by simpa [dd, List.Nodup, List.pairwise_reverse] using h.imp (fun h => Ne.symm h)
  | n :: l, acc, h => by
    simp only [dd]
    cases hc : acc.contains n with
    | true => exact dd_nodup h
    | false => exact dd_nodup (List.nodup_cons.2 ⟨by simpa using hc, h⟩)

theorem cap_nodup {l : List Nat} (h : nodup l = true) : nodup (cap l) = true := by
  unfold cap
  cases decide (l.length < 1000) <;> simp [h, nodup]

theorem cap_length (l : List Nat) : (cap l).length < 1000 := by
  unfold cap
  cases h : decide (l.length < 1000)
  · simp
  · simpa using h

theorem order_nodup (h : Heap) (vs : List V) : nodup (order h vs) = true := nodup_iff.2 (dd_nodup List.nodup_nil)

theorem uget_map (l : List (Nat × AObj)) : uget (l.map fun p => (p.1, some p.2)) = hget l := by
  funext n
  induction l with
  | nil => rfl
  | cons q l ih =>
    obtain ⟨k, o⟩ := q
    simp only [List.map_cons, uget, hget]
    rw [ih]

theorem eget_zip (f : Nat → V) : ∀ (keep : List Nat) (t : Nat), eget (keep.zip (keep.map f)) t = if t ∈ keep then f t else .dead
  | [], t => by simp [eget]
  | k :: keep, t => by
    simp only [List.map_cons, List.zip_cons_cons, eget, List.mem_cons]
    by_cases h : k = t
    · subst h; simp
    · have : (k == t) = false := by simpa using h
      rw [this, cond_false, eget_zip f keep t]
      have h' : t ≠ k := Ne.symm h
      simp [h']

section
variable {P : Program} {T : Tys} {okIn U : Nat → Prop} {w0 : World} {N : Slots} {Q : Exit → Act → World → Prop} {w : World} {ok : Nat → Prop} {lam : Nat → Option Nat} {H : Heap}

/-- Some names under their places in a list. -/
theorem Ctx.idx {p : Nat → Prop} (h : Ctx okIn U w0 p w ok lam H) {l : List Nat} (hnd : nodup l = true) {q : Nat → Prop} (hq : ∀ k, k < l.length → q k) :
    Ctx okIn U w0 q w ok (fun k => (l[k]?).bind lam) (hget (objs H (Go.Rx.idx l) 0 l)) := by
  have key : ∀ k, hget (objs H (Go.Rx.idx l) 0 l) k ≠ Option.none → ∃ n, l[k]? = some n ∧ H n ≠ Option.none := fun k hk => by
    rw [hget_objs0] at hk
    cases hl : l[k]? with
    | none => rw [hl] at hk; simp at hk
    | some n =>
      rw [hl] at hk
      refine ⟨n, rfl, fun hn => ?_⟩
      rw [Option.bind_some, hn] at hk
      simp at hk
  refine ⟨h.hok.idx hnd h.hok.oklt (fun _ hb => hb) (fun k n b _ hn hb => h.hok.dis n b hn hb), fun k o ho => ?_, fun k hk => ?_, h.okb, fun k b hk hb => ?_, h.size⟩
  · rw [hget_objs0] at ho
    cases hl : l[k]? with
    | none => rw [hl] at ho; simp at ho
    | some n =>
      rw [hl, Option.bind_some] at ho
      obtain ⟨o', _, rfl⟩ := Option.map_eq_some_iff.1 ho
      exact renO_good (fun n k hn => hq k (List.getElem?_eq_some_iff.1 (idx_some hn)).1) o'
  · obtain ⟨n, hn, _⟩ := key k hk
    exact hq k (List.getElem?_eq_some_iff.1 hn).1
  · obtain ⟨n, hn, hH⟩ := key k hk
    simp only [hn, Option.bind_some] at hb
    exact h.ownb n b hH hb

theorem prep_sound {p : Nat → Prop} (keep : List Nat) {s : St} {a : Act} (h : SR okIn U w0 N p (eget s.env) (uget s.H) a w) :
    SR okIn U w0 N (Lt 1000) (eget (prep keep s).env) (uget (prep keep s).H) a w := by
  obtain ⟨ok, lam, h⟩ := h
  have hlt := cap_length (order (uget s.H) (keep.map (eget s.env)))
  have hnd := cap_nodup (order_nodup (uget s.H) (keep.map (eget s.env)))
  generalize ho : cap (order (uget s.H) (keep.map (eget s.env))) = o at hlt hnd
  have hH : uget (prep keep s).H = hget (objs (uget s.H) (idx o) 0 o) := by
    simp only [prep]
    rw [uget_map, ho]
  have hE : ∀ t, eget (prep keep s).env t = if t ∈ keep then renV (idx o) (eget s.env t) else .dead := fun t => by
    simp only [prep]
    rw [ho, List.map_map]
    exact eget_zip (fun t => renV (idx o) (eget s.env t)) keep t
  have hq : ∀ n k, idx o n = some k → Lt 1000 k := fun n k hn => by
    have := (List.getElem?_eq_some_iff.1 (idx_some hn)).1
    unfold Lt; omega
  refine ⟨ok, fun k => (o[k]?).bind lam, ?_, fun t => ?_, fun t => ?_, h.size, h.pin, h.defers, h.fr⟩
  · rw [hH]
    exact h.ctx.idx hnd fun k hk => by unfold Lt; omega
  · rw [hH, hE]
    by_cases ht : t ∈ keep
    · rw [if_pos ht]; exact renV_rel (ren_idx (uget s.H) lam o) (h.rel t)
    · rw [if_neg ht]; exact .dead
  · rw [hE]
    by_cases ht : t ∈ keep
    · rw [if_pos ht]; exact renV_good hq _
    · rw [if_neg ht]; exact .dead

/-! ### code -/

/-- Every operation writes to a temporary that is there. -/
def codeDst (N : Nat → Bool) : Code → Bool
  | .region _ ops _ => ops.toList.all fun o => match o.dst with | some d => N d | none => true
  | .seq a b => codeDst N a && codeDst N b
  | .cond _ a b => codeDst N a && codeDst N b
  | .block _ c | .loop c | .scope c => codeDst N c
  | _ => true

theorem least {p : Nat → Prop} (h : ∃ n, p n) : ∃ n, p n ∧ ∀ m, p m → n ≤ m := by
  obtain ⟨n, hn⟩ := h
  induction n using Nat.strongRecOn with
  | _ n ih =>
    by_cases hc : ∃ m, m < n ∧ p m
    · obtain ⟨m, hm, hp⟩ := hc; exact ih m hm hp
    · exact ⟨n, hn, fun m hm => Nat.le_of_not_lt fun hlt => hc ⟨m, hlt, hm⟩⟩

def SRs (okIn U : Nat → Prop) (w0 : World) (N : Slots) (s : St) (a : Act) (w : World) : Prop := SR okIn U w0 N (fun _ => True) (eget s.env) (uget s.H) a w

theorem SR.drawn {p : Nat → Prop} {e : Nat → V} {a : Act} (h : SR okIn U w0 N p e H a w) (k : Nat) : SR okIn U w0 N p e H a { w with drawn := k } :=
  let ⟨ok, lam, h⟩ := h; ⟨ok, lam, h.drawn k⟩

theorem code_sound (hT : TyOK P T) {can : Nat → Bool} (hcan : ∀ d, can d = true → N.can d) (hm : P.follows .mixedOrders = true) (hr hl : Hints) : ∀ (c : Code), codeDst can c = true → ∀ {Q : Exit → Act → World → Prop} {K : Exit → St → Prop} {s : St} {a : Act} {w : World},
    (∀ e s a w, SRs okIn U w0 N s a w → K e s → Q e a w) → SRs okIn U w0 N s a w → cVC T P hr hl c s K → c.wp P Q a w := by
  intro c
  induction c with
  | skip => intro _ Q K s a w hQ h hv; exact wp_skip (hQ _ _ _ _ h hv)
  | label l => intro _ Q K s a w hQ h hv; exact wp_label (hQ _ _ _ _ h hv)
  | exit id => intro _ Q K s a w hQ h hv; exact wp_exit (hQ _ _ _ _ h hv)
  | ret => intro _ Q K s a w hQ h hv; exact wp_ret (hQ _ _ _ _ h hv)
  | region id ops draw =>
    intro hd Q K s a w hQ h hv
    have hdst : ∀ o ∈ ops.toList, ∀ d, o.dst = some d → N.can d := fun o ho d hod => by
      have := List.all_eq_true.1 hd o ho
      rw [hod] at this
      exact hcan d this
    have h1 := prep_sound (hr id) h
    cases draw with
    | false =>
      have := seq_sound (Q := Q) hT hdst (K := K .normal) (fun s a w h hK => hQ _ _ _ _ h hK) ops.toList 0 (prep (hr id) s) a w rfl h1 hv
      rw [Array.length_toList, ← List.range_eq_range'] at this
      exact wp_region this
    | true => exact wp_region_any hm (draw_sound hT hdst (K := K .normal) (fun s a w h hK => hQ _ _ _ _ h hK) (h1.drawn _) hv)
  | seq x y ihx ihy =>
    intro hd Q K s a w hQ h hv
    simp only [codeDst, Bool.and_eq_true] at hd
    refine wp_seq (ihx hd.1 (fun e s a w h hK => ?_) h hv)
    cases e with
    | normal => exact ihy hd.2 hQ h hK
    | _ => exact hQ _ _ _ _ h hK
  | cond c x y ihx ihy =>
    intro hd Q K s a w hQ h hv
    simp only [codeDst, Bool.and_eq_true] at hd
    simp only [cVC] at hv
    obtain ⟨ok, lam, h'⟩ := h
    have hc := h'.ev c
    rw [← ev_evF] at hc
    cases hx : ev s.env c with
    | d z =>
      rw [hx] at hv hc
      cases z with
      | bool b =>
        have hb : a.eval c = .bool b := by generalize a.eval c = y at hc; cases hc.inv_d; rfl
        simp only at hv
        cases b with
        | true => exact wp_cond hb (ihx hd.1 hQ ⟨ok, lam, h'⟩ (hv.1 rfl))
        | false => exact wp_cond hb (ihy hd.2 hQ ⟨ok, lam, h'⟩ (hv.2 rfl))
      | _ => exact hv.elim
    | _ => rw [hx] at hv; exact hv.elim
  | block id c ih =>
    intro hd Q K s a w hQ h hv
    refine wp_block (ih hd (fun e s a w h hK => ?_) h hv)
    cases e with
    | exit i =>
      simp only [Exit.inBlock] at hK ⊢
      by_cases hi : i = id
      · rw [if_pos hi] at hK ⊢; exact hQ _ _ _ _ h hK
      · rw [if_neg hi] at hK ⊢; exact hQ _ _ _ _ h hK
    | _ => exact hQ _ _ _ _ h hK
  | loop c ih =>
    intro hd Q K s a w hQ h hv
    obtain ⟨α, st, inv, m, ⟨x0, hx0, hi0⟩, hround⟩ := hv
    let pp : Act → World → Nat → Prop := fun a w n => ∃ x, inv x ∧ SRs okIn U w0 N (st x) a w ∧ m x = n
    have hex : ∀ a w, (∃ n, pp a w n) → ∃ n, pp a w n ∧ ∀ m, pp a w m → n ≤ m := fun a w => least
    classical
    let mu : Act → World → Nat := fun a w => if hx : ∃ n, pp a w n then (hex a w hx).choose else 0
    have hmu : ∀ a w (hx : ∃ n, pp a w n), pp a w (mu a w) ∧ ∀ m, pp a w m → mu a w ≤ m := fun a w hx => by
      have : mu a w = (hex a w hx).choose := dif_pos hx
      rw [this]; exact (hex a w hx).choose_spec
    refine wp_loop (fun a w => ∃ n, pp a w n) mu ⟨_, x0, hi0, ?_, rfl⟩ fun a w hx => ?_
    · rw [← hx0]; exact (prep_sound (hl (firstRegion c)) h).mono fun _ _ => trivial
    · obtain ⟨⟨x1, hI1, hs1, hmu1⟩, _⟩ := hmu a w hx
      refine ih hd (fun e s2 a2 w2 h2 hK => ?_) hs1 (hround x1 hI1)
      cases e with
      | normal =>
        obtain ⟨y, hy, hiy, hmy⟩ := hK
        have hp : pp a2 w2 (m y) := ⟨y, hiy, by rw [← hy]; exact (prep_sound (hl (firstRegion c)) h2).mono fun _ _ => trivial, rfl⟩
        have h3 := (hmu a2 w2 ⟨_, hp⟩).2 _ hp
        exact ⟨⟨_, hp⟩, by omega⟩
      | _ => exact hQ _ _ _ _ h2 hK
  | _ => intro _ Q K s a w hQ h hv; exact hv.elim

end
end Go.Rx
