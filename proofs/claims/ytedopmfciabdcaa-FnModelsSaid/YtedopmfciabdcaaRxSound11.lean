/-
  Part of the proof that the abstract evaluator is right about the model's run; each lemma names its conditions.
-/
import Derived.Test.YtedopmfciabdcaaRxSound10
namespace Go.Rx
open Go Go.RowKit

section
variable {p : Nat → Prop} {w w' : World} {ok ok' : Nat → Prop} {lam lam' : Nat → Option Nat} {H H' : Heap}

theorem updF_append (u u' : Upd) (H : Heap) : updF (u ++ u') H = updF u' (updF u H) := by simp [updF, List.foldl_append]
theorem updF_cons (x : Nat × Option AObj) (u : Upd) (H : Heap) : updF (x :: u) H = updF u (fun n => if x.1 = n then x.2 else H n) := rfl
theorem updF_nil (H : Heap) : updF [] H = H := rfl
theorem updF_one (n : Nat) (o : Option AObj) (H : Heap) : updF [(n, o)] H = fun k => if n = k then o else H k := rfl

theorem updF_rem (ls : List Nat) (H : Heap) : updF (ls.map (·, none)) H = remF ls H := by
  induction ls generalizing H with
  | nil => funext n; simp [updF, remF]
  | cons k ls ih =>
    rw [List.map_cons, updF_cons, ih]
    funext n
    unfold remF
    by_cases h1 : n ∈ ls
    · simp [h1]
    · by_cases h2 : k = n
      · simp [h2]
      · simp [h1, h2, Ne.symm h2]

theorem setCells_heap (b : Nat) (T : TypeId) (fr : Nat × Nat) : ∀ (vs : List Value) (o : Nat) (w : World) (cs : List Value), w.heap[b]? = some (.cells ⟨cs⟩ T fr) → o + vs.length ≤ cs.length →
    (w.setCells b o vs).heap[b]? = some (.cells ⟨splice cs o vs⟩ T fr) := by
  intro vs
  induction vs with
  | nil => intro o w cs h hl; simp only [World.setCells, splice]; simp [h]
  | cons v vs ih =>
    intro o w cs h hl
    simp only [World.setCells]
    have h1 : (w.setCell ⟨b, o, none⟩ v).heap[b]? = some (.cells ⟨cs.set o v⟩ T fr) := by
      simp only [World.setCell, Array.getElem?_modify, if_true, h, Option.map_some]
      simp
    rw [ih (o + 1) _ (cs.set o v) h1 (by simp at hl ⊢; omega)]
    congr 3
    have hlt : o < cs.length := by simp at hl; omega
    simp only [splice, List.length_cons]
    rw [show o + (vs.length + 1) = o + 1 + vs.length by omega, List.take_succ_eq_append_getElem (by simpa using hlt)]
    simp only [List.getElem_set_self, List.take_set_of_le (Nat.le_refl _), List.drop_set_of_lt (show o < o + 1 + vs.length by omega), List.append_assoc, List.singleton_append]

theorem setCells_other (b : Nat) : ∀ (vs : List Value) (o : Nat) (w : World) (k : Nat), k ≠ b → (w.setCells b o vs).heap[k]? = w.heap[k]? := by
  intro vs
  induction vs with
  | nil => intro o w k _; rfl
  | cons v vs ih =>
    intro o w k hk
    simp only [World.setCells]
    rw [ih (o + 1) _ k hk]
    exact heap_setCell_other w ⟨b, o, none⟩ k v hk

theorem setCells_meta (b : Nat) : ∀ (vs : List Value) (o : Nat) (w : World), (w.setCells b o vs).heap.size = w.heap.size ∧ (w.setCells b o vs).os = w.os ∧ (w.setCells b o vs).tape = w.tape ∧ (w.setCells b o vs).output = w.output := by
  intro vs
  induction vs with
  | nil => intro o w; exact ⟨rfl, rfl, rfl, rfl⟩
  | cons v vs ih => intro o w; simp only [World.setCells]; obtain ⟨h1, h2, h3, h4⟩ := ih (o + 1) (w.setCell ⟨b, o, none⟩ v); exact ⟨h1.trans (by simp), h2, h3, h4⟩

theorem setCells_sized {w : World} {b o : Nat} {T : TypeId} {fr : Nat × Nat} {vs cs : List Value} (hb : w.heap[b]? = some (.cells ⟨cs⟩ T fr)) (hl : o + vs.length ≤ cs.length) : Sized w (w.setCells b o vs) :=
  sized_one (setCells_heap b T fr vs o w cs hb hl) (fun cs' T' fr' h => by rw [hb] at h; cases h; simp [splice]; omega) fun k _ hk => setCells_other b vs o w k hk

/-- An object of ours is written anew, in its block. -/
theorem HOK.upd (h : HOK w ok lam H) {n b : Nat} {o o' : AObj} (hn : H n = some o) (hl : lam n = some b) (hg : ∀ k o, H k = some o → OGood p o) (hd : ∀ k, H k ≠ none → p k)
    (hother : ∀ k, k ≠ b → w'.heap[k]? = w.heap[k]?) (hsz : w'.heap.size = w.heap.size)
    (hblk : ∀ cs T fr, w.heap[b]? = some (.cells cs T fr) → ∃ cs' T' fr', w'.heap[b]? = some (.cells cs' T' fr') ∧ cs'.size = cs.size)
    (hkind : (∃ c c', o = .box c ∧ o' = .box c') ∨ (∃ m xs xs', o = .arr m xs ∧ o' = .arr m xs' ∧ xs.length = xs'.length))
    (ho : Chg p w ok lam H w' ok lam (fun k => if n = k then some o' else H k) → ObjRel w' ok lam (fun k => if n = k then some o' else H k) n o') :
    HOK w' ok lam (fun k => if n = k then some o' else H k) ∧ Chg p w ok lam H w' ok lam (fun k => if n = k then some o' else H k) := by
  have hnb : ∀ c, ok c → c ≠ b := fun c hc e => h.dis n b (by rw [hn]; simp) hl (e ▸ hc)
  have hne : ∀ a, (if n = a then some o' else H a) ≠ none → H a ≠ none := fun a ha => by
    by_cases e : n = a
    · subst e; rw [hn]; simp
    · rw [if_neg e] at ha; exact ha
  have hc : Chg p w ok lam H w' ok lam (fun k => if n = k then some o' else H k) := by
    refine ⟨fun c hc => hother c (hnb c hc), fun _ h => h, fun _ _ _ => rfl, fun a _ c' hc => ?_, fun a _ m xs' hc => ?_, fun a c cs T fr _ _ _ ha h1 h2 => ?_⟩
    · by_cases e : n = a
      · subst e
        simp at hc
        rcases hkind with ⟨c, c2, rfl, rfl⟩ | ⟨m, xs, xs', rfl, rfl, _⟩
        · exact ⟨c, hn⟩
        · cases hc
      · simp only [if_neg e] at hc; exact ⟨c', hc⟩
    · by_cases e : n = a
      · subst e
        simp at hc
        rcases hkind with ⟨c, c2, rfl, rfl⟩ | ⟨m2, xs, xs2, rfl, rfl, hlen⟩
        · cases hc
        · cases hc; exact ⟨xs, hn, hlen⟩
      · simp only [if_neg e] at hc; exact ⟨xs', hc, rfl⟩
    · by_cases e : c = b
      · subst e; exact hblk cs T fr h2
      · exact ⟨cs, T, fr, by rw [hother c e]; exact h2, rfl⟩
  refine ⟨⟨fun a c d ha hc' h1 h2 => h.inj a c d (hne a ha) (hne c hc') h1 h2, fun a c ha h1 => hsz ▸ h.lt a c (hne a ha) h1, fun a c ha h1 => h.dis a c (hne a ha) h1, fun c hc => hsz ▸ h.oklt c hc, fun a x ha => ?_⟩, hc⟩
  by_cases e : n = a
  · subst e; simp at ha; subst ha; exact ho hc
  · have ha' : H a = some x := by rw [if_neg e] at ha; exact ha
    exact ObjRel.chg hc (hd a (by rw [ha']; simp)) (by rw [if_neg e, ha']; simp) (hg a x ha') (fun c hc => hother c (fun e2 => e (h.inj n a b (by rw [hn]; simp) (by rw [ha']; simp) hl (e2 ▸ hc)))) (h.obj a x ha')

/-- Cells for a box: each nil slice becomes an array of ours without elements. -/
theorem mkBox_sound {tb : Nat} : ∀ (vs : List V) (vals : List Value) (zs : List Z) (k : Nat) (p : Nat → Prop) (lam : Nat → Option Nat) (H : Heap),
    HOK w ok lam H → (∀ k o, H k = some o → OGood p o) → (∀ k, H k ≠ none → p k) → (∀ j, k ≤ j → j < k + vs.length → ¬ p (tb + 1 + j)) →
    Rel2 (VRel w ok lam H) vs vals → (∀ v ∈ vs, VGood p v) →
    ∃ lam', HOK w ok lam' (updF (mkBox tb k vs zs).2 H) ∧ Chg p w ok lam H w ok lam' (updF (mkBox tb k vs zs).2 H) ∧
      Rel2 (VRel w ok lam' (updF (mkBox tb k vs zs).2 H)) (mkBox tb k vs zs).1 vals ∧
      (∀ v ∈ (mkBox tb k vs zs).1, VGood (fun n => p n ∨ tb + 1 + k ≤ n ∧ n < tb + 1 + k + vs.length) v) ∧
      (∀ n o, updF (mkBox tb k vs zs).2 H n = some o → OGood (fun n => p n ∨ tb + 1 + k ≤ n ∧ n < tb + 1 + k + vs.length) o) ∧
      (∀ n, updF (mkBox tb k vs zs).2 H n ≠ none → p n ∨ tb + 1 + k ≤ n ∧ n < tb + 1 + k + vs.length) ∧
      (∀ n b, updF (mkBox tb k vs zs).2 H n ≠ none → lam' n = some b → H n ≠ none ∧ lam n = some b) ∧
      (∀ n, p n → updF (mkBox tb k vs zs).2 H n = H n ∧ lam' n = lam n) := by
  intro vs
  induction vs with
  | nil =>
    intro vals zs k p lam H h hg hd hf hr hv
    rw [hr.nil_left]
    exact ⟨lam, h, Chg.of_old (fun _ _ => rfl) h.oklt (fun _ h => h) (fun _ _ => .inr rfl) (fun _ _ _ => rfl), Rel2.nil _, by simp [mkBox],
      fun n o ho => (hg n o ho).mono fun _ h => .inl h, fun n hn => .inl (hd n hn), fun n b h1 h2 => ⟨h1, h2⟩, fun n _ => ⟨rfl, rfl⟩⟩
  | cons v vs ih =>
    intro vals zs k p lam H h hg hd hf hr hv
    obtain ⟨x, rest, rfl, hx, hrest⟩ := hr.uncons
    have plain : (mkBox tb k (v :: vs) zs) = (v :: (mkBox tb (k + 1) vs (zs.drop 1)).1, (mkBox tb (k + 1) vs (zs.drop 1)).2) ∨
        (v = .nils ∧ ∃ m, (mkBox tb k (v :: vs) zs) = (.own (tb + 1 + k) 0 0 :: (mkBox tb (k + 1) vs (zs.drop 1)).1, (tb + 1 + k, some (.arr m [])) :: (mkBox tb (k + 1) vs (zs.drop 1)).2)) := by
      cases v with
      | nils => cases zs with
        | nil => exact .inl rfl
        | cons z zs => cases z with
          | d x => exact .inl rfl
          | nils m => exact .inr ⟨rfl, m, rfl⟩
      | _ => exact .inl rfl
    rcases plain with e | ⟨rfl, m, e⟩
    · rw [e]
      obtain ⟨lam', h1, h2, h3, h4, h5, h6, h7, h8⟩ := ih rest (zs.drop 1) (k + 1) p lam H h hg hd (fun j hj hj2 => hf j (by omega) (by simp; omega)) hrest (fun v hv' => hv v (List.mem_cons_of_mem _ hv'))
      have hm : ∀ n, (p n ∨ tb + 1 + (k + 1) ≤ n ∧ n < tb + 1 + (k + 1) + vs.length) → (p n ∨ tb + 1 + k ≤ n ∧ n < tb + 1 + k + (v :: vs).length) := fun n hn => by
        rcases hn with hn | hn
        · exact .inl hn
        · exact .inr ⟨by omega, by simp; omega⟩
      refine ⟨lam', h1, h2, Rel2.cons (h2.v hx (hv v List.mem_cons_self)) h3, fun u hu => ?_, fun n o ho => (h5 n o ho).mono hm, fun n hn => hm n (h6 n hn), h7, h8⟩
      rcases List.mem_cons.1 hu with rfl | hu
      · exact (hv u List.mem_cons_self).mono fun _ h => .inl h
      · exact (h4 u hu).mono hm
    · rw [e]
      have hfr : ¬ p (tb + 1 + k) := hf k (Nat.le_refl _) (by simp)
      have hnone : H (tb + 1 + k) = none := by
        cases hh : H (tb + 1 + k) with
        | none => rfl
        | some o => exact absurd (hd _ (by rw [hh]; simp)) hfr
      obtain ⟨a1, a2⟩ := h.addNil (p := p) (m := m) hnone hfr hg hd
      obtain ⟨lam', h1, h2, h3, h4, h5, h6, h7, h8⟩ := ih rest (zs.drop 1) (k + 1) (fun n => p n ∨ n = tb + 1 + k) _ _ a1
        (fun n o ho => by
          by_cases e : tb + 1 + k = n
          · subst e; simp at ho; subst ho; trivial
          · rw [if_neg e] at ho; exact (hg n o ho).mono fun _ h => .inl h)
        (fun n hn => by
          by_cases e : tb + 1 + k = n
          · exact .inr e.symm
          · rw [if_neg e] at hn; exact .inl (hd n hn))
        (fun j hj hj2 => by
          have := hf j (by omega) (by simp; omega)
          intro hc
          rcases hc with hc | hc
          · exact this hc
          · omega)
        (hrest.mono fun v x hv' hr => a2.v hr (hv v (List.mem_cons_of_mem _ hv')))
        (fun v hv' => (hv v (List.mem_cons_of_mem _ hv')).mono fun _ h => .inl h)
      have hm : ∀ n, ((p n ∨ n = tb + 1 + k) ∨ tb + 1 + (k + 1) ≤ n ∧ n < tb + 1 + (k + 1) + vs.length) → (p n ∨ tb + 1 + k ≤ n ∧ n < tb + 1 + k + (V.nils :: vs).length) := fun n hn => by
        rcases hn with (hn | rfl) | hn
        · exact .inl hn
        · exact .inr ⟨Nat.le_refl _, by simp⟩
        · exact .inr ⟨by omega, by simp; omega⟩
      cases hx
      have hcn : updF (mkBox tb (k + 1) vs (zs.drop 1)).2 (fun n => if tb + 1 + k = n then some (.arr m []) else H n) (tb + 1 + k) = some (.arr m []) ∧ lam' (tb + 1 + k) = none := by
        have := h8 (tb + 1 + k) (.inr rfl)
        simpa using this
      refine ⟨lam', h1, ?_, Rel2.cons ?_ h3, fun u hu => ?_, fun n o ho => (h5 n o ho).mono hm, fun n hn => hm n (h6 n hn), fun n b hn hb => ?_, fun n hn => ?_⟩
      · refine ⟨fun _ _ => rfl, fun _ h => h, fun n hn hne => ?_, fun n hn c' hc => ?_, fun n hn m' xs' hc => ?_, fun n b cs T fr _ _ hn hne hb hh => ⟨cs, T, fr, hh, rfl⟩⟩
        · rw [(h8 n (.inl hn)).2, if_neg (fun (e : n = tb + 1 + k) => hfr (e ▸ hn))]
        · rw [updF_cons, (h8 n (.inl hn)).1, if_neg (fun (e : tb + 1 + k = n) => hfr (e.symm ▸ hn))] at hc; exact ⟨c', hc⟩
        · rw [updF_cons, (h8 n (.inl hn)).1, if_neg (fun (e : tb + 1 + k = n) => hfr (e.symm ▸ hn))] at hc; exact ⟨xs', hc, rfl⟩
      · refine .own ⟨_, _, _, rfl⟩ fun m' xs' hc => ?_
        rw [updF_cons, hcn.1] at hc
        cases hc
        exact ⟨by simp, .inl ⟨hcn.2, rfl, rfl⟩⟩
      · rcases List.mem_cons.1 hu with rfl | hu
        · exact .own (.inr ⟨Nat.le_refl _, by simp⟩)
        · exact (h4 u hu).mono hm
      · have := h7 n b hn hb
        by_cases e : tb + 1 + k = n
        · subst e; simp at this
        · simp only [if_neg e, if_neg (Ne.symm e)] at this; exact this
      · rw [updF_cons, (h8 n (.inl hn)).1, (h8 n (.inl hn)).2, if_neg (fun (e : tb + 1 + k = n) => hfr (e.symm ▸ hn)), if_neg (fun (e : n = tb + 1 + k) => hfr (e ▸ hn))]
        exact ⟨rfl, rfl⟩

end
end Go.Rx
