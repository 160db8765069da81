/-
  Part of the proof that the abstract evaluator is right about the model's run; each lemma names its conditions.
-/
import Derived.Test.YtedopmfciabdcaaRxSound6
import Derived.Lib.ConvBytes
namespace Go.Rx
open Go Go.RowKit

section
variable {P : Program} {T : Tys} {w : World} {ok : Nat → Prop} {lam : Nat → Option Nat} {H : Heap} {q : Nat → Prop} {v0 : V} {u0 : Upd}

/-- The blocks that may be read, and those of some names. -/
def okB (ok : Nat → Prop) (lam : Nat → Option Nat) (H : Heap) (ls : List Nat) (b : Nat) : Prop := ok b ∨ ∃ n ∈ ls, H n ≠ none ∧ lam n = some b

theorem okB_of {b : Nat} {ls : List Nat} (h : ok b) : okB ok lam H ls b := .inl h
theorem okB_mono {b : Nat} {ls ms : List Nat} (h : okB ok lam H ls b) (hs : ∀ n ∈ ls, n ∈ ms) : okB ok lam H ms b := by
  rcases h with h | ⟨n, hn, h1, h2⟩
  · exact .inl h
  · exact .inr ⟨n, hs n hn, h1, h2⟩

theorem cD_sound (hk : HOK w ok lam H) {x : V} {v : Value} {d : D} {ls : List Nat} (hx : VRel w ok lam H x v) (h : cD H x = some (d, ls)) : DRel w (okB ok lam H ls) d v := by
  cases x with
  | d y => simp [cD] at h; obtain ⟨rfl, rfl⟩ := h; exact hx.inv_d.mono (fun _ _ => rfl) fun b hb => .inl hb
  | nils => simp [cD] at h; obtain ⟨rfl, rfl⟩ := h; cases hx; exact .sl0 _ _
  | own n off len =>
    simp only [cD] at h
    cases hn : H n with
    | none => simp [hn] at h
    | some ob =>
      cases ob with
      | box c => simp [hn] at h
      | arr m xs =>
        simp [hn] at h
        obtain ⟨rfl, rfl⟩ := h
        cases hx with | own _ hx =>
        obtain ⟨hle, hc⟩ := hx m xs hn
        rcases hc with ⟨_, rfl, rfl⟩ | ⟨b, o, cap, cs, Te, fr, g1, rfl, g3, g4, g5, g6⟩
        · simp; exact .sl0 _ _
        · obtain ⟨hm, hmax, hobj⟩ := hk.obj n _ hn
          rcases hobj with ⟨hz, _⟩ | ⟨b', cs', Te', fr', k1, k2, k3, k4, k5⟩
          · rw [g1] at hz; cases hz
          · obtain rfl : b = b' := by rw [g1] at k1; exact Option.some.inj k1
            have hlen : ((xs.drop off).take len).length = len := by simp; omega
            by_cases hz : len = 0
            · subst hz; simp; exact .sl0 _ _
            · have ho : o = off * m := g4.resolve_left (by omega)
              have hget : ∀ (i : Nat) e, ((xs.drop off).take len)[i]? = some e → xs[off + i]? = some e := by
                intro i e he
                rw [List.getElem?_take] at he
                split at he
                · rwa [List.getElem?_drop] at he
                · simp at he
              have := DRel.sl (w := w) (ok := okB ok lam H [n]) ((xs.drop off).take len) m b o cap (fun k => cs'.getD (off * m + k) undef) (by omega) (by unfold LEN; unfold MAX at *; omega) (.inr ⟨n, by simp, by rw [hn]; simp, g1⟩)
                (fun e he => hm e (List.mem_of_mem_drop (List.mem_of_mem_take he))) (fun i e j d hi hj => by
                  obtain ⟨c, hc, _⟩ := k5 (off + i) e j d (hget i e hi) hj
                  rw [Nat.add_mul, Nat.add_assoc] at hc
                  rw [ho, cell_of_row w b _ cs' Te' fr' k2, hc]
                  simp [Array.getD_eq_getD_getElem?, hc]) (fun i e j d hi hj => by
                  obtain ⟨c, hc, hd⟩ := k5 (off + i) e j d (hget i e hi) hj
                  rw [Nat.add_mul, Nat.add_assoc] at hc
                  simp only [Array.getD_eq_getD_getElem?, hc, Option.getD_some]
                  exact hd.mono (fun _ _ => rfl) fun b hb => .inl hb)
              rw [hlen] at this
              exact this
  | _ => simp [cD] at h

theorem cDs_sound (hk : HOK w ok lam H) : ∀ {xs : List V} {vs : List Value} {ds : List D} {ls : List Nat}, Rel2 (VRel w ok lam H) xs vs → cDs H xs = some (ds, ls) → Rel2 (DRel w (okB ok lam H ls)) ds vs := by
  intro xs
  induction xs with
  | nil => intro vs ds ls h hc; rw [h.nil_left]; simp [cDs] at hc; rw [hc.1]; exact Rel2.nil _
  | cons x xs ih =>
    intro vs ds ls h hc
    obtain ⟨v, m, rfl, hv, hm⟩ := h.uncons
    simp only [cDs] at hc
    cases h1 : cD H x with
    | none => simp [h1] at hc
    | some p =>
      obtain ⟨y, l⟩ := p
      cases h2 : cDs H xs with
      | none => simp [h1, h2] at hc
      | some p2 =>
        obtain ⟨ys, l2⟩ := p2
        simp [h1, h2] at hc
        obtain ⟨rfl, rfl⟩ := hc
        exact Rel2.cons ((cD_sound hk hv h1).mono (fun _ _ => rfl) fun b hb => okB_mono hb (by simp; intro n hn; exact .inl hn))
          ((ih hm h2).mono fun _ _ _ hd => hd.mono (fun _ _ => rfl) fun b hb => okB_mono hb (by simp; intro n hn; exact .inr hn))

theorem toP_sound (hk : HOK w ok lam H) {x : V} {v : Value} {d : D} {ls : List Nat} (hx : VRel w ok lam H x v) (h : toP H x = some (d, ls)) : DRel w (okB ok lam H ls) d v := by
  cases x with
  | ref n off =>
    simp only [toP] at h
    cases hn : H n with
    | none => simp [hn] at h
    | some ob =>
      cases ob with
      | arr m xs => simp [hn] at h
      | box cells =>
        cases hc : cDs H cells with
        | none => simp [hn, hc] at h
        | some p =>
          obtain ⟨ds, l⟩ := p
          simp [hn, hc] at h
          obtain ⟨rfl, rfl⟩ := h
          cases hx with | ref _ hx =>
          obtain ⟨b, hb, rfl⟩ := hx _ hn
          obtain ⟨b', cs, Te, h1, h2, h3, h4⟩ := box_range (off := off) hk hn
          obtain rfl : b = b' := by rw [h1] at hb; exact (Option.some.inj hb).symm
          have hr := (cDs_sound hk h3 hc).drop off
          have hlen := hr.1
          refine .ptr _ b off (fun j => (cs.drop off).getD j undef) (.inr ⟨n, by simp, by rw [hn]; simp, h1⟩) (fun j d hj => ?_) (fun j d hj => ?_)
          · obtain ⟨c, hc', _⟩ := hr.get hj
            rw [h4 j c hc']
            simp only [List.getD, hc', Option.getD_some]
          · obtain ⟨c, hc', hd⟩ := hr.get hj
            have : (cs.drop off).getD j undef = c := by simp only [List.getD, hc', Option.getD_some]
            rw [this]
            exact hd.mono (fun _ _ => rfl) fun b hb => okB_mono hb (by simp; intro n hn; exact .inr hn)
  | _ => exact cD_sound hk hx (by simpa only [toP] using h)

theorem toPs_sound (hk : HOK w ok lam H) : ∀ {xs : List V} {vs : List Value} {ds : List D} {ls : List Nat}, Rel2 (VRel w ok lam H) xs vs → toPs H xs = some (ds, ls) → Rel2 (DRel w (okB ok lam H ls)) ds vs := by
  intro xs
  induction xs with
  | nil => intro vs ds ls h hc; rw [h.nil_left]; simp [toPs] at hc; rw [hc.1]; exact Rel2.nil _
  | cons x xs ih =>
    intro vs ds ls h hc
    obtain ⟨v, m, rfl, hv, hm⟩ := h.uncons
    simp only [toPs] at hc
    cases h1 : toP H x with
    | none => simp [h1] at hc
    | some p =>
      obtain ⟨y, l⟩ := p
      cases h2 : toPs H xs with
      | none => simp [h1, h2] at hc
      | some p2 =>
        obtain ⟨ys, l2⟩ := p2
        simp [h1, h2] at hc
        obtain ⟨rfl, rfl⟩ := hc
        exact Rel2.cons ((toP_sound hk hv h1).mono (fun _ _ => rfl) fun b hb => okB_mono hb (by simp; intro n hn; exact .inl hn))
          ((ih hm h2).mono fun _ _ _ hd => hd.mono (fun _ _ => rfl) fun b hb => okB_mono hb (by simp; intro n hn; exact .inr hn))

theorem toD_sound (hk : HOK w ok lam H) {x : V} {v : Value} {d : D} {ls : List Nat} (hx : VRel w ok lam H x v) (h : toD H x = some (d, ls)) : DRel w (okB ok lam H ls) d v := by
  cases x with
  | agg vs =>
    obtain ⟨cs, rfl, hr⟩ := hx.inv_agg
    simp only [toD] at h
    cases hc : cDs H vs with
    | none => simp [hc] at h
    | some p =>
      obtain ⟨ds, l⟩ := p
      simp [hc] at h
      obtain ⟨rfl, rfl⟩ := h
      have := cDs_sound hk hr hc
      exact .agg _ _ this.1 this.2
  | clo f vs =>
    cases hx with | clo hl hd =>
    simp only [toD] at h
    cases hc : toPs H vs with
    | none => simp [hc] at h
    | some p =>
      obtain ⟨ds, l⟩ := p
      simp [hc] at h
      obtain ⟨rfl, rfl⟩ := h
      have := toPs_sound hk ⟨hl, hd⟩ hc
      exact .clo _ _ _ this.1 this.2
  | _ => exact cD_sound hk hx (by simpa only [toD] using h)

/-! ### more quiet operations -/

theorem V.cells_sound {x : V} {v : Value} {cs : List V} (hx : VRel w ok lam H x v) (h : x.cells = some cs) : Rel2 (VRel w ok lam H) cs v.cells.toList := by
  have single : ∀ x : V, (∀ c, v ≠ .agg c) → VRel w ok lam H x v → Rel2 (VRel w ok lam H) [x] v.cells.toList := by
    intro x hv hx
    have : v.cells = #[v] := by cases v <;> first | rfl | exact absurd rfl (hv _)
    rw [this]
    exact Rel2.cons hx (Rel2.nil _)
  cases x with
  | agg vs => simp [V.cells] at h; subst h; obtain ⟨c, rfl, hr⟩ := hx.inv_agg; exact hr
  | d y =>
    cases y with
    | agg ds => simp [V.cells] at h; subst h; obtain ⟨c, rfl, hr⟩ := ofD_agg hx.inv_d; exact Rel2.dV hr
    | und => simp [V.cells] at h
    | _ => simp [V.cells] at h; subst h; refine single _ ?_ hx; cases hx.inv_d <;> simp
  | dead => simp [V.cells] at h
  | tup => simp [V.cells] at h
  | ref n off => simp [V.cells] at h; subst h; refine single _ ?_ hx; cases hx with | ref h1 => obtain ⟨A, rfl⟩ := h1; simp
  | el n i j => simp [V.cells] at h; subst h; refine single _ ?_ hx; cases hx with | el h1 => obtain ⟨A, rfl⟩ := h1; simp
  | own n i j => simp [V.cells] at h; subst h; refine single _ ?_ hx; cases hx with | own h1 => obtain ⟨A, l, c, rfl⟩ := h1; simp
  | nils => simp [V.cells] at h; subst h; refine single _ ?_ hx; cases hx; simp
  | clo f vs => simp [V.cells] at h; subst h; refine single _ ?_ hx; cases hx; simp

end
end Go.Rx
