/-
  Part of the proof that the abstract evaluator is right about the model's run; each lemma names its conditions.
-/
import Derived.Test.YtedopmfciabdcaaRxSound9
namespace Go.Rx
open Go Go.RowKit

def updF (u : Upd) (H : Heap) : Heap := u.foldl (fun h p => fun n => if p.1 = n then p.2 else h n) H

structure Chg (p : Nat → Prop) (w : World) (ok : Nat → Prop) (lam : Nat → Option Nat) (H : Heap) (w' : World) (ok' : Nat → Prop) (lam' : Nat → Option Nat) (H' : Heap) : Prop where
  hw : ∀ b, ok b → w'.heap[b]? = w.heap[b]?
  hok : ∀ b, ok b → ok' b
  hl : ∀ n, p n → H' n ≠ none → lam' n = lam n
  hbox : ∀ n, p n → ∀ c', H' n = some (.box c') → ∃ c, H n = some (.box c)
  harr : ∀ n, p n → ∀ m xs', H' n = some (.arr m xs') → ∃ xs, H n = some (.arr m xs) ∧ xs.length = xs'.length
  hsz : ∀ n b cs T fr m xs', p n → H' n = some (.arr m xs') → lam n = some b → w.heap[b]? = some (.cells cs T fr) → ∃ cs' T' fr', w'.heap[b]? = some (.cells cs' T' fr') ∧ cs'.size = cs.size

section
variable {p : Nat → Prop} {w w' : World} {ok ok' : Nat → Prop} {lam lam' : Nat → Option Nat} {H H' : Heap}

theorem Chg.v (h : Chg p w ok lam H w' ok' lam' H') {x : V} {v : Value} (hx : VRel w ok lam H x v) (hg : VGood p x) : VRel w' ok' lam' H' x v :=
  hx.mono hg h.hw h.hok h.hl h.hbox h.harr h.hsz

/-- Old blocks and old names are as they were (or the names are gone). -/
theorem Chg.of_old (hblk : ∀ b, b < w.heap.size → w'.heap[b]? = w.heap[b]?) (hlt : ∀ b, ok b → b < w.heap.size) (hok : ∀ b, ok b → ok' b)
    (hH : ∀ n, p n → H' n = none ∨ H' n = H n) (hl : ∀ n, p n → H' n ≠ none → lam' n = lam n) : Chg p w ok lam H w' ok' lam' H' where
  hw b hb := hblk b (hlt b hb)
  hok := hok
  hl := hl
  hbox n hp c' hc := by
    rcases hH n hp with h | h
    · rw [h] at hc; cases hc
    · exact ⟨c', by rw [← h]; exact hc⟩
  harr n hp m xs' hc := by
    rcases hH n hp with h | h
    · rw [h] at hc; cases hc
    · exact ⟨xs', by rw [← h]; exact hc, rfl⟩
  hsz n b cs T fr m xs' hp _ _ hb := by
    have hlt : b < w.heap.size := by
      rcases Nat.lt_or_ge b w.heap.size with h | h
      · exact h
      · simp [Array.getElem?_eq_none h] at hb
    exact ⟨cs, T, fr, by rw [hblk b hlt]; exact hb, rfl⟩

theorem ObjRel.chg (h : Chg p w ok lam H w' ok' lam' H') {n : Nat} {o : AObj} (hp : p n) (hne : H' n ≠ none) (hg : OGood p o) (hb : ∀ b, lam n = some b → w'.heap[b]? = w.heap[b]?) (ho : ObjRel w ok lam H n o) :
    ObjRel w' ok' lam' H' n o := by
  cases o with
  | box cells =>
    obtain ⟨b, cs, T, h1, h2, h3, h4⟩ := ho
    exact ⟨b, cs, T, (h.hl n hp hne).trans h1, (hb b h1).trans h2, h3, fun i v c hv hc => h.v (h4 i v c hv hc) (hg v (List.mem_of_getElem? hv))⟩
  | arr m xs =>
    obtain ⟨h0, hm, hc⟩ := ho
    refine ⟨h0, hm, ?_⟩
    rcases hc with ⟨h1, h2⟩ | ⟨b, cs, T, fr, h1, h2, h3, h4, h5⟩
    · exact .inl ⟨(h.hl n hp hne).trans h1, h2⟩
    · refine .inr ⟨b, cs, T, fr, (h.hl n hp hne).trans h1, (hb b h1).trans h2, fun i hi => ?_, h4, fun i e j d hi hj => ?_⟩
      · rw [World.frozen?_of_block (w := w) (hb b h1)]; exact h3 i hi
      · obtain ⟨c, hc, hd⟩ := h5 i e j d hi hj
        exact ⟨c, hc, hd.mono h.hw h.hok⟩

/-- What an operation needs of the state ahead of it. -/
structure Ctx (okIn U : Nat → Prop) (w0 : World) (p : Nat → Prop) (w : World) (ok : Nat → Prop) (lam : Nat → Option Nat) (H : Heap) : Prop where
  hok : HOK w ok lam H
  good : ∀ n o, H n = some o → OGood p o
  dom : ∀ n, H n ≠ none → p n
  okb : ∀ b, ok b → okIn b ∨ U b ∨ w0.heap.size ≤ b
  ownb : ∀ n b, H n ≠ none → lam n = some b → U b ∨ w0.heap.size ≤ b
  size : w0.heap.size ≤ w.heap.size

def Fr2 (U : Nat → Prop) (w0 w w' : World) : Prop := Fr (fun b => U b ∨ w0.heap.size ≤ b) w w'

/-- The state behind it. -/
structure Eff (okIn U : Nat → Prop) (w0 : World) (p p' : Nat → Prop) (w : World) (ok : Nat → Prop) (lam : Nat → Option Nat) (H : Heap) (v0 : V) (H' : Heap) (w' : World) (cv : Value) (lam' : Nat → Option Nat) (ok' : Nat → Prop) : Prop where
  ctx : Ctx okIn U w0 p' w' ok' lam' H'
  val : VRel w' ok' lam' H' v0 cv
  vgood : VGood p' v0
  fr : Fr2 U w0 w w'
  stab : ∀ x v, VGood p x → VRel w ok lam H x v → VRel w' ok' lam' H' x v

variable {okIn U : Nat → Prop} {w0 : World} {p' : Nat → Prop} {v0 : V} {cv : Value}

theorem Eff.quiet (h : Ctx okIn U w0 p w ok lam H) (hpp : ∀ n, p n → p' n) (hv : VRel w ok lam H v0 cv) (hg : VGood p v0) : Eff okIn U w0 p p' w ok lam H v0 H w cv lam ok where
  ctx := ⟨h.hok, fun n o ho => (h.good n o ho).mono hpp, fun n hn => hpp n (h.dom n hn), h.okb, h.ownb, h.size⟩
  val := hv
  vgood := hg.mono hpp
  fr := Fr.refl _ _
  stab _ _ _ hx := hx

/-- A new name for an array without elements. -/
theorem HOK.addNil (h : HOK w ok lam H) {n m : Nat} (hn : H n = none) (hp : ¬ p n) (hg : ∀ k o, H k = some o → OGood p o) (hd : ∀ k, H k ≠ none → p k) :
    HOK w ok (fun k => if k = n then none else lam k) (fun k => if n = k then some (.arr m []) else H k) ∧
    Chg p w ok lam H w ok (fun k => if k = n then none else lam k) (fun k => if n = k then some (.arr m []) else H k) := by
  have hc : Chg p w ok lam H w ok (fun k => if k = n then none else lam k) (fun k => if n = k then some (.arr m []) else H k) :=
    Chg.of_old (fun _ _ => rfl) h.oklt (fun _ h => h) (fun k hk => .inr (by rw [if_neg (fun (e : n = k) => hp (e.symm ▸ hk))])) (fun k hk _ => by rw [if_neg (fun (e : k = n) => hp (e ▸ hk))])
  refine ⟨⟨fun a b c ha hb h1 h2 => ?_, fun a b ha h1 => ?_, fun a b ha h1 => ?_, h.oklt, fun a o ha => ?_⟩, hc⟩
  · by_cases e1 : a = n
    · simp [e1] at h1
    · by_cases e2 : b = n
      · simp [e2] at h2
      · rw [if_neg e1] at h1; rw [if_neg e2] at h2; rw [if_neg (Ne.symm e1)] at ha; rw [if_neg (Ne.symm e2)] at hb
        exact h.inj a b c ha hb h1 h2
  · by_cases e1 : a = n
    · simp [e1] at h1
    · rw [if_neg e1] at h1; rw [if_neg (Ne.symm e1)] at ha; exact h.lt a b ha h1
  · by_cases e1 : a = n
    · simp [e1] at h1
    · rw [if_neg e1] at h1; rw [if_neg (Ne.symm e1)] at ha; exact h.dis a b ha h1
  · by_cases e1 : a = n
    · subst e1
      simp at ha; subst ha
      exact ⟨by simp, by simp, .inl ⟨by simp, rfl⟩⟩
    · rw [if_neg (Ne.symm e1)] at ha
      exact ObjRel.chg hc (hd a (by rw [ha]; simp)) (by rw [if_neg (Ne.symm e1), ha]; simp) (hg a o ha) (fun _ _ => rfl) (h.obj a o ha)

/-- A new name for an object in a new block. -/
theorem HOK.addNew (h : HOK w ok lam H) {n : Nat} {o : AObj} (hn : H n = none) (hp : ¬ p n) (hg : ∀ k o, H k = some o → OGood p o) (hd : ∀ k, H k ≠ none → p k)
    (hblk : ∀ b, b < w.heap.size → w'.heap[b]? = w.heap[b]?) (hsz : w.heap.size < w'.heap.size)
    (ho : Chg p w ok lam H w' ok (fun k => if k = n then some w.heap.size else lam k) (fun k => if n = k then some o else H k) →
      ObjRel w' ok (fun k => if k = n then some w.heap.size else lam k) (fun k => if n = k then some o else H k) n o) :
    HOK w' ok (fun k => if k = n then some w.heap.size else lam k) (fun k => if n = k then some o else H k) ∧
    Chg p w ok lam H w' ok (fun k => if k = n then some w.heap.size else lam k) (fun k => if n = k then some o else H k) := by
  have hc : Chg p w ok lam H w' ok (fun k => if k = n then some w.heap.size else lam k) (fun k => if n = k then some o else H k) :=
    Chg.of_old hblk h.oklt (fun _ h => h) (fun k hk => .inr (by rw [if_neg (fun (e : n = k) => hp (e.symm ▸ hk))])) (fun k hk _ => by rw [if_neg (fun (e : k = n) => hp (e ▸ hk))])
  refine ⟨⟨fun a b c ha hb h1 h2 => ?_, fun a b ha h1 => ?_, fun a b ha h1 => ?_, fun b hb => Nat.lt_trans (h.oklt b hb) hsz, fun a o' ha => ?_⟩, hc⟩
  · by_cases e1 : a = n
    · by_cases e2 : b = n
      · rw [e1, e2]
      · rw [if_pos e1] at h1; rw [if_neg e2] at h2; rw [if_neg (Ne.symm e2)] at hb
        have := h.lt b c hb h2
        simp at h1; omega
    · by_cases e2 : b = n
      · rw [if_pos e2] at h2; rw [if_neg e1] at h1; rw [if_neg (Ne.symm e1)] at ha
        have := h.lt a c ha h1
        simp at h2; omega
      · rw [if_neg e1] at h1; rw [if_neg e2] at h2; rw [if_neg (Ne.symm e1)] at ha; rw [if_neg (Ne.symm e2)] at hb
        exact h.inj a b c ha hb h1 h2
  · by_cases e1 : a = n
    · rw [if_pos e1] at h1; simp at h1; omega
    · rw [if_neg e1] at h1; rw [if_neg (Ne.symm e1)] at ha; exact Nat.lt_trans (h.lt a b ha h1) hsz
  · by_cases e1 : a = n
    · rw [if_pos e1] at h1; intro hb; have := h.oklt b hb; simp at h1; omega
    · rw [if_neg e1] at h1; rw [if_neg (Ne.symm e1)] at ha; exact h.dis a b ha h1
  · by_cases e1 : a = n
    · subst e1
      simp at ha; subst ha
      exact ho hc
    · rw [if_neg (Ne.symm e1)] at ha
      exact ObjRel.chg hc (hd a (by rw [ha]; simp)) (by rw [if_neg (Ne.symm e1), ha]; simp) (hg a o' ha) (fun b hb => hblk b (h.lt a b (by rw [ha]; simp) hb)) (h.obj a o' ha)

def remF (ls : List Nat) (H : Heap) : Heap := fun n => if n ∈ ls then none else H n

/-- Names let go: what they owned may be read. -/
theorem HOK.rem (h : HOK w ok lam H) (ls : List Nat) (hg : ∀ k o, H k = some o → OGood p o) (hd : ∀ k, H k ≠ none → p k) :
    HOK w (okB ok lam H ls) lam (remF ls H) ∧ Chg p w ok lam H w (okB ok lam H ls) lam (remF ls H) := by
  have hc : Chg p w ok lam H w (okB ok lam H ls) lam (remF ls H) :=
    Chg.of_old (fun _ _ => rfl) h.oklt (fun _ h => .inl h) (fun k _ => by unfold remF; split <;> simp) (fun _ _ _ => rfl)
  have hne : ∀ a, remF ls H a ≠ none → a ∉ ls ∧ H a ≠ none := fun a ha => by
    unfold remF at ha; split at ha
    · simp at ha
    · exact ⟨‹_›, ha⟩
  refine ⟨⟨fun a b c ha hb h1 h2 => h.inj a b c (hne a ha).2 (hne b hb).2 h1 h2, fun a b ha h1 => h.lt a b (hne a ha).2 h1, fun a b ha h1 hb => ?_, fun b hb => ?_, fun a o ha => ?_⟩, hc⟩
  · rcases hb with hb | ⟨k, hk, hk1, hk2⟩
    · exact h.dis a b (hne a ha).2 h1 hb
    · have := h.inj a k b (hne a ha).2 hk1 h1 hk2
      exact (hne a ha).1 (this ▸ hk)
  · rcases hb with hb | ⟨k, hk, hk1, hk2⟩
    · exact h.oklt b hb
    · exact h.lt k b hk1 hk2
  · have hna : remF ls H a ≠ none := by rw [ha]; simp
    have ha' : H a = some o := by have h2 := (hne a hna).1; unfold remF at ha; rw [if_neg h2] at ha; exact ha
    exact ObjRel.chg hc (hd a (hne a hna).2) hna (hg a o ha') (fun _ _ => rfl) (h.obj a o ha')

end
end Go.Rx
