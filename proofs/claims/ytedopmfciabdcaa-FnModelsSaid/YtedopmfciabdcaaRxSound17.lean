/-
  Part of the proof that the abstract evaluator is right about the model's run; each lemma names its conditions.
-/
import Derived.Test.YtedopmfciabdcaaRxSound16
namespace Go.Rx
open Go Go.RowKit

section
variable {P : Program} {T : Tys} {okIn U : Nat → Prop} {w0 : World} {p : Nat → Prop} {w w' : World} {ok ok' : Nat → Prop} {lam lam' : Nat → Option Nat} {H H' : Heap} {v0 : V} {u0 : Upd} {cv : Value}

theorem VGood.all : (x : V) → VGood (fun _ => True) x
  | .d x => .d x
  | .ref _ _ => .ref trivial
  | .el _ _ _ => .el trivial
  | .own _ _ _ => .own trivial
  | .nils => .nils
  | .agg vs => .agg fun v hv => VGood.all v
  | .tup vs => .tup fun v hv => VGood.all v
  | .clo _ vs => .clo fun v hv => VGood.all v
  | .dead => .dead
termination_by x => SizeOf.sizeOf x
decreasing_by all_goals (have := List.sizeOf_lt_of_mem hv; simp; omega)

/-- A renaming of names: what has a new name is there under it. -/
structure Ren (r : Nat → Option Nat) (lam : Nat → Option Nat) (H : Heap) (lam' : Nat → Option Nat) (H' : Heap) : Prop where
  obj : ∀ n k o, r n = some k → H' k = some o → ∃ o0, H n = some o0 ∧ o = renO r o0
  lam : ∀ n k, r n = some k → H' k ≠ none → lam' k = lam n

theorem renO_arr {r : Nat → Option Nat} {o : AObj} {m : Nat} {xs : List (List D)} (h : AObj.arr m xs = renO r o) : o = .arr m xs := by
  cases o with
  | box c => simp [renO] at h
  | arr m' xs' => simp [renO] at h; obtain ⟨rfl, rfl⟩ := h; rfl

theorem renC_rel {r : Nat → Option Nat} (hr : Ren r lam H lam' H') {x : V} {v : Value} (h : VRel w ok lam H x v) : VRel w ok lam' H' (renC r x) v := by
  cases x with
  | ref n off =>
    simp only [renC]
    cases hn : r n with
    | none => exact .dead
    | some k =>
      cases h with | ref h1 h =>
      refine .ref h1 fun o ho => ?_
      obtain ⟨o0, h2, _⟩ := hr.obj n k o hn ho
      obtain ⟨b, hb, hv⟩ := h o0 h2
      exact ⟨b, (hr.lam n k hn (by rw [ho]; simp)).trans hb, hv⟩
  | el n i j =>
    simp only [renC]
    cases hn : r n with
    | none => exact .dead
    | some k =>
      cases h with | el h1 h =>
      refine .el h1 fun m xs ho => ?_
      obtain ⟨o0, h2, h3⟩ := hr.obj n k _ hn ho
      rw [renO_arr h3] at h2
      obtain ⟨hi, b, hb, hv⟩ := h m xs h2
      exact ⟨hi, b, (hr.lam n k hn (by rw [ho]; simp)).trans hb, hv⟩
  | own n off len =>
    simp only [renC]
    cases hn : r n with
    | none => exact .dead
    | some k =>
      cases h with | own h1 h =>
      refine .own h1 fun m xs ho => ?_
      obtain ⟨o0, h2, h3⟩ := hr.obj n k _ hn ho
      rw [renO_arr h3] at h2
      obtain ⟨hle, hc⟩ := h m xs h2
      have hl := hr.lam n k hn (by rw [ho]; simp)
      refine ⟨hle, ?_⟩
      rcases hc with ⟨g1, g2, g3⟩ | ⟨b, o, cap, cs, Te, fr, g1, g2, g3, g4, g5, g6⟩
      · exact .inl ⟨hl.trans g1, g2, g3⟩
      · exact .inr ⟨b, o, cap, cs, Te, fr, hl.trans g1, g2, g3, g4, g5, g6⟩
  | d x => exact .d h.inv_d
  | nils => cases h; exact .nils
  | agg => exact .dead
  | tup => exact .dead
  | clo => exact .dead
  | dead => exact .dead

theorem Rel2.renC {r : Nat → Option Nat} (hr : Ren r lam H lam' H') {xs : List V} {vs : List Value} (h : Rel2 (VRel w ok lam H) xs vs) : Rel2 (VRel w ok lam' H') (xs.map (Go.Rx.renC r)) vs :=
  Rel2.map _ h fun _ _ _ hx => renC_rel hr hx

theorem renA_rel {r : Nat → Option Nat} (hr : Ren r lam H lam' H') {x : V} {v : Value} (h : VRel w ok lam H x v) : VRel w ok lam' H' (renA r x) v := by
  cases x with
  | agg vs => obtain ⟨cs, rfl, h2⟩ := h.inv_agg; exact VRel.mkAgg (h2.renC hr)
  | clo f vs => cases h with | clo hl hd => have := Rel2.renC hr ⟨hl, hd⟩; exact .clo this.1 this.2
  | _ => exact renC_rel hr h

theorem renV_rel {r : Nat → Option Nat} (hr : Ren r lam H lam' H') {x : V} {v : Value} (h : VRel w ok lam H x v) : VRel w ok lam' H' (renV r x) v := by
  cases x with
  | tup vs => obtain ⟨cs, rfl, h2⟩ := h.inv_tup; exact VRel.mkTup (Rel2.map _ h2 fun _ _ _ hx => renA_rel hr hx)
  | _ => exact renA_rel hr h

theorem renO_rel {r : Nat → Option Nat} (hr : Ren r lam H lam' H') {n k : Nat} (hn : r n = some k) (hk : H' k ≠ none) {o : AObj} (h : ObjRel w ok lam H n o) : ObjRel w ok lam' H' k (renO r o) := by
  have hl := hr.lam n k hn hk
  cases o with
  | box cells =>
    obtain ⟨b, cs, Te, h1, h2, h3, h4⟩ := h
    have hrel : Rel2 (VRel w ok lam H) cells cs.toList := ⟨by simpa using h3, fun i x y hx hy => h4 i x y hx (by simpa using hy)⟩
    have h5 := hrel.renC hr
    exact ⟨b, cs, Te, hl.trans h1, h2, by simpa using h5.1, fun i v c hv hc => h5.2 i v c hv (by simpa using hc)⟩
  | arr m xs =>
    obtain ⟨h1, h2, h3⟩ := h
    refine ⟨h1, h2, ?_⟩
    rcases h3 with ⟨g1, g2⟩ | ⟨b, cs, Te, fr, g1, g2⟩
    · exact .inl ⟨hl.trans g1, g2⟩
    · exact .inr ⟨b, cs, Te, fr, hl.trans g1, g2⟩

theorem renC_good {r : Nat → Option Nat} {q : Nat → Prop} (hq : ∀ n k, r n = some k → q k) (x : V) : VGood q (renC r x) := by
  cases x with
  | ref n off => simp only [renC]; cases hn : r n with | none => exact .dead | some k => exact .ref (hq n k hn)
  | el n i j => simp only [renC]; cases hn : r n with | none => exact .dead | some k => exact .el (hq n k hn)
  | own n i j => simp only [renC]; cases hn : r n with | none => exact .dead | some k => exact .own (hq n k hn)
  | d x => exact .d x
  | nils => exact .nils
  | _ => exact .dead

theorem renA_good {r : Nat → Option Nat} {q : Nat → Prop} (hq : ∀ n k, r n = some k → q k) (x : V) : VGood q (renA r x) := by
  cases x with
  | agg vs => exact .agg fun v hv => by obtain ⟨y, _, rfl⟩ := List.mem_map.1 hv; exact renC_good hq y
  | clo f vs => exact .clo fun v hv => by obtain ⟨y, _, rfl⟩ := List.mem_map.1 hv; exact renC_good hq y
  | _ => simp only [renA]; exact renC_good hq _

theorem renV_good {r : Nat → Option Nat} {q : Nat → Prop} (hq : ∀ n k, r n = some k → q k) (x : V) : VGood q (renV r x) := by
  cases x with
  | tup vs => exact .tup fun v hv => by obtain ⟨y, _, rfl⟩ := List.mem_map.1 hv; exact renA_good hq y
  | _ => simp only [renV]; exact renA_good hq _

theorem renO_good {r : Nat → Option Nat} {q : Nat → Prop} (hq : ∀ n k, r n = some k → q k) (o : AObj) : OGood q (renO r o) := by
  cases o with
  | box c => intro v hv; obtain ⟨y, _, rfl⟩ := List.mem_map.1 hv; exact renC_good hq y
  | arr => trivial

/-! ### the index of a name in a list -/

theorem idx_some : ∀ {l : List Nat} {n k : Nat}, idx l n = some k → l[k]? = some n := by
  intro l
  induction l with
  | nil => intro n k h; simp [idx] at h
  | cons m l ih =>
    intro n k h
    simp only [idx] at h
    cases hm : m == n with
    | true => rw [hm] at h; simp at h; subst h; simp at hm; simp [hm]
    | false =>
      rw [hm] at h
      simp only [cond_false] at h
      cases hi : idx l n with
      | none => rw [hi] at h; simp at h
      | some j => rw [hi] at h; simp at h; subst h; simpa using ih hi

theorem nodup_inj : ∀ {l : List Nat}, nodup l = true → ∀ {i j n : Nat}, l[i]? = some n → l[j]? = some n → i = j := by
  intro l
  induction l with
  | nil => intro _ i j n h; simp at h
  | cons m l ih =>
    intro h i j n hi hj
    simp only [nodup, Bool.and_eq_true, Bool.not_eq_true'] at h
    have hnot : ∀ k, l[k]? ≠ some m := fun k hk => by
      have := List.mem_of_getElem? hk
      have h2 : l.contains m = true := by simpa using this
      rw [h2] at h; simp at h
    cases i with
    | zero =>
      simp at hi; subst hi
      cases j with
      | zero => rfl
      | succ j => simp at hj; exact absurd hj (hnot j)
    | succ i =>
      cases j with
      | zero => simp at hj; subst hj; simp at hi; exact absurd hi (hnot i)
      | succ j => simp at hi hj; rw [ih h.2 hi hj]

theorem hget_objs (h : Heap) (r : Nat → Option Nat) : ∀ (l : List Nat) (k j : Nat), hget (objs h r k l) (k + j) = (l[j]?).bind fun n => (h n).map (renO r) := by
  intro l
  induction l with
  | nil => intro k j; simp [objs, hget]
  | cons n l ih =>
    intro k j
    have lt : ∀ (l : List Nat) (k j : Nat), j < k → hget (objs h r k l) j = none := by
      intro l
      induction l with
      | nil => intro k j _; simp [objs, hget]
      | cons a l ih =>
        intro k j hj
        simp only [objs]
        split
        · simp only [hget]
          have : (k == j) = false := by simp; omega
          rw [this]
          exact ih (k + 1) j (by omega)
        · exact ih (k + 1) j (by omega)
    cases j with
    | zero =>
      simp only [objs, List.getElem?_cons_zero, Option.bind_some, Nat.add_zero]
      cases hn : h n with
      | none => simp only [Option.map_none]; exact lt l (k + 1) k (by omega)
      | some o => simp [hget]
    | succ j =>
      simp only [objs, List.getElem?_cons_succ]
      cases hn : h n with
      | none => simp only; rw [show k + (j + 1) = k + 1 + j by omega]; exact ih (k + 1) j
      | some o =>
        simp only [hget]
        have : (k == k + (j + 1)) = false := by simp
        rw [this, show k + (j + 1) = k + 1 + j by omega]
        exact ih (k + 1) j

theorem hget_objs0 (h : Heap) (r : Nat → Option Nat) (l : List Nat) (j : Nat) : hget (objs h r 0 l) j = (l[j]?).bind fun n => (h n).map (renO r) := by
  have := hget_objs h r l 0 j; rwa [Nat.zero_add] at this

/-- Names by their place in a list. -/
theorem ren_idx (H : Heap) (lam : Nat → Option Nat) (l : List Nat) : Ren (idx l) lam H (fun k => (l[k]?).bind lam) (hget (objs H (idx l) 0 l)) := by
  refine ⟨fun n k o hn ho => ?_, fun n k hn _ => by rw [idx_some hn]; rfl⟩
  rw [hget_objs0, idx_some hn] at ho
  simp at ho
  obtain ⟨o0, h1, h2⟩ := ho
  exact ⟨o0, h1, h2.symm⟩

theorem HOK.idx (h : HOK w ok lam H) {l : List Nat} (hnd : nodup l = true) (hok : ∀ b, ok' b → b < w.heap.size) (hsub : ∀ b, ok b → ok' b)
    (hdis : ∀ (k : Nat) n b, l[k]? = some n → H n ≠ none → lam n = some b → ¬ ok' b) : HOK w ok' (fun k => (l[k]?).bind lam) (hget (objs H (idx l) 0 l)) := by
  have hne : ∀ k, hget (objs H (Go.Rx.idx l) 0 l) k ≠ none → ∃ n o, l[k]? = some n ∧ H n = some o ∧ hget (objs H (Go.Rx.idx l) 0 l) k = some (renO (Go.Rx.idx l) o) := fun k hk => by
    rw [hget_objs0] at hk ⊢
    cases hl : l[k]? with
    | none => rw [hl] at hk; simp at hk
    | some n =>
      cases hn : H n with
      | none => rw [hl] at hk; simp [hn] at hk
      | some o => exact ⟨n, o, rfl, hn, by simp [hn]⟩
  refine ⟨fun k k' b hk hk' h1 h2 => ?_, fun k b hk h1 => ?_, fun k b hk h1 => ?_, hok, fun k o ho => ?_⟩
  · obtain ⟨n, o, e1, e2, _⟩ := hne k hk
    obtain ⟨n', o', e3, e4, _⟩ := hne k' hk'
    rw [e1] at h1; rw [e3] at h2
    have := h.inj n n' b (by rw [e2]; simp) (by rw [e4]; simp) h1 h2
    subst this
    exact nodup_inj hnd e1 e3
  · obtain ⟨n, o, e1, e2, _⟩ := hne k hk
    rw [e1] at h1
    exact h.lt n b (by rw [e2]; simp) h1
  · obtain ⟨n, o, e1, e2, _⟩ := hne k hk
    rw [e1] at h1
    exact hdis k n b e1 (by rw [e2]; simp) h1
  · obtain ⟨n, o', e1, e2, e3⟩ := hne k (by rw [ho]; simp)
    rw [ho] at e3
    cases e3
    have hi : Go.Rx.idx l n = some k := by
      have hex : ∃ j, Go.Rx.idx l n = some j := by
        have : ∀ (l : List Nat), n ∈ l → ∃ j, Go.Rx.idx l n = some j := by
          intro l
          induction l with
          | nil => intro h; cases h
          | cons a l ih =>
            intro h
            simp only [Go.Rx.idx]
            cases ha : a == n with
            | true => exact ⟨0, rfl⟩
            | false =>
              rcases List.mem_cons.1 h with rfl | h
              · simp at ha
              · obtain ⟨j, hj⟩ := ih h; exact ⟨j + 1, by rw [hj]; rfl⟩
        exact this l (List.mem_of_getElem? e1)
      obtain ⟨j, hj⟩ := hex
      rw [hj, nodup_inj hnd (idx_some hj) e1]
    have h0 : ObjRel w ok' lam H n o' := by
      have := h.obj n o' e2
      cases o' with
      | box cells =>
        obtain ⟨b, cs, Te, g1, g2, g3, g4⟩ := this
        refine ⟨b, cs, Te, g1, g2, g3, fun i v c hv hc => ?_⟩
        have hv' := g4 i v c hv hc
        exact hv'.mono (p := fun _ => True) (VGood.all v) (fun _ _ => rfl) hsub (fun _ _ _ => rfl) (fun n _ c' hc' => ⟨c', hc'⟩) (fun n _ m xs' hx => ⟨xs', hx, rfl⟩) (fun n b cs T fr m xs' _ _ _ hh => ⟨cs, T, fr, hh, rfl⟩)
      | arr m xs =>
        obtain ⟨g1, g2, g3⟩ := this
        refine ⟨g1, g2, g3.imp id fun ⟨b, cs, Te, fr, k1, k2, k3, k4, k5⟩ => ⟨b, cs, Te, fr, k1, k2, k3, k4, fun i e j d hi hj => ?_⟩⟩
        obtain ⟨c, hc, hd⟩ := k5 i e j d hi hj
        exact ⟨c, hc, hd.mono (fun _ _ => rfl) hsub⟩
    exact renO_rel (ren_idx H lam l) hi (by rw [ho]; simp) h0

end
end Go.Rx
