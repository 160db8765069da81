/-
  Part of the proof that the abstract evaluator is right about the model's run; each lemma names its conditions.
-/
import Derived.Test.YtedopmfciabdcaaRxSound17
namespace Go.Rx
open Go Go.RowKit

section
variable {P : Program} {T : Tys} {okIn U : Nat → Prop} {w0 : World} {p : Nat → Prop} {w w' : World} {ok ok' : Nat → Prop} {lam lam' : Nat → Option Nat} {H : Heap} {v0 : V} {u0 : Upd} {cv : Value}

theorem Flat.rel {d : D} (h : Flat d) : ∀ {v : Value}, DRel w ok d v → DRel w ok' d v := by
  induction h with
  | int k n => intro v hd; cases hd; exact .int k n
  | bool b => intro v hd; cases hd; exact .bool b
  | str s => intro v hd; cases hd; exact .str s ‹_›
  | nil =>
    intro v hd
    generalize he : D.sl [] = e at hd
    cases hd with
    | sl0 A c => exact .sl0 A c
    | sl xs m b o cap vs hc hm hb hl hv hd => cases he; exact .sl0 _ _
    | _ => cases he
  | agg h ih => intro v hd; cases hd with | agg _ vs hl hd => exact .agg _ vs hl fun i d v h1 h2 => ih d (List.mem_of_getElem? h1) (hd i d v h1 h2)
  | nilp => intro v hd; cases hd; exact .nilp
  | und => intro v hd; cases hd; exact .und

theorem FlatV.rel {x : V} (h : FlatV x) : ∀ {v : Value}, VRel w ok lam H x v → VRel w ok' lam H x v := by
  induction h with
  | d h => intro v hv; exact .d (h.rel hv.inv_d)
  | ref n off => intro v hv; cases hv with | ref h1 h2 => exact .ref h1 h2
  | el n i j => intro v hv; cases hv with | el h1 h2 => exact .el h1 h2
  | own n i j => intro v hv; cases hv with | own h1 h2 => exact .own h1 h2
  | nils => intro v hv; cases hv; exact .nils
  | agg h ih => intro v hv; obtain ⟨cs, rfl, hr⟩ := hv.inv_agg; exact VRel.mkAgg (hr.mono fun x y hx hxy => ih x hx hxy)
  | tup h ih => intro v hv; obtain ⟨cs, rfl, hr⟩ := hv.inv_tup; exact VRel.mkTup (hr.mono fun x y hx hxy => ih x hx hxy)
  | dead => intro v hv; exact .dead

theorem FlatO.rel {o : AObj} (h : FlatO o) {n : Nat} (hv : ObjRel w ok lam H n o) : ObjRel w ok' lam H n o := by
  cases o with
  | box cells =>
    obtain ⟨b, cs, Te, g1, g2, g3, g4⟩ := hv
    exact ⟨b, cs, Te, g1, g2, g3, fun i v c hv hc => (h v (List.mem_of_getElem? hv)).rel (g4 i v c hv hc)⟩
  | arr m xs =>
    obtain ⟨g1, g2, g3⟩ := hv
    refine ⟨g1, g2, g3.imp id fun ⟨b, cs, Te, fr, k1, k2, k3, k4, k5⟩ => ⟨b, cs, Te, fr, k1, k2, k3, k4, fun i e j d hi hj => ?_⟩⟩
    obtain ⟨c, hc, hd⟩ := k5 i e j d hi hj
    exact ⟨c, hc, (h e (List.mem_of_getElem? hi) d (List.mem_of_getElem? hj)).rel hd⟩

def ArgRel (w : World) (ok : Nat → Prop) (lam : Nat → Option Nat) (H : Heap) (ps bs : List Nat) : Arg → Value → Prop
  | .dat x, v => DRel w (okB ok lam H bs) x v
  | .box n, v => (∃ cells, H n = some (.box cells)) ∧ n ∈ ps ∧ ∃ b, lam n = some b ∧ v = .pointer (some ⟨b, 0, none⟩)
  | .own n off len, v => (∃ m xs, H n = some (.arr m xs)) ∧ n ∈ ps ∧ VRel w ok lam H (.own n off len) v
  | .nils, v => v = .slice none 0 0

theorem ArgRel.mono {ps bs ps' bs' : List Nat} (h1 : ∀ n ∈ ps, n ∈ ps') (h2 : ∀ n ∈ bs, n ∈ bs') {a : Arg} {v : Value} (h : ArgRel w ok lam H ps bs a v) : ArgRel w ok lam H ps' bs' a v := by
  cases a with
  | dat x => exact DRel.mono h (fun _ _ => rfl) fun b hb => okB_mono hb h2
  | box n => exact ⟨h.1, h1 n h.2.1, h.2.2⟩
  | own n off len => exact ⟨h.1, h1 n h.2.1, h.2.2⟩
  | nils => exact h

theorem gather_sound (hk : HOK w ok lam H) : ∀ {args : List V} {ms : List Bool} {vs : List Value} {as : List Arg} {ps bs : List Nat}, Rel2 (VRel w ok lam H) args vs → gather H ms args = some (as, ps, bs) → Rel2 (ArgRel w ok lam H ps bs) as vs := by
  intro args
  induction args with
  | nil => intro ms vs as ps bs hr h; rw [hr.nil_left]; simp [gather] at h; rw [h.1]; exact Rel2.nil _
  | cons x xs ih =>
    intro ms vs as ps bs hr h
    obtain ⟨v, m, rfl, hv, hm⟩ := hr.uncons
    simp only [gather] at h
    cases hg : gather H (ms.drop 1) xs with
    | none => rw [hg] at h; simp at h
    | some q =>
      obtain ⟨as2, ps2, bs2⟩ := q
      rw [hg] at h
      simp only at h
      have hrec := ih hm hg
      have dat : ∀ (y : V), VRel w ok lam H y v → gatherD H y as2 ps2 bs2 = some (as, ps, bs) → Rel2 (ArgRel w ok lam H ps bs) as (v :: m) := by
        intro y hy h
        unfold gatherD at h
        cases hd : toD H y with
        | none => rw [hd] at h; simp at h
        | some q =>
          obtain ⟨d, l⟩ := q
          rw [hd] at h
          simp at h
          obtain ⟨rfl, rfl, rfl⟩ := h
          exact Rel2.cons (DRel.mono (toD_sound hk hy hd) (fun _ _ => rfl) fun b hb => okB_mono hb (by simp; intro n hn; exact .inl hn)) (hrec.mono fun _ _ _ ha => ha.mono (fun _ h => h) (by simp; intro n hn; exact .inr hn))
      cases x with
      | ref n off =>
        cases off with
        | zero =>
          cases hn : H n with
          | none => cases ms.headD false <;> simp [gather1, hn] at h
          | some ob =>
            cases ob with
            | arr m xs => cases ms.headD false <;> simp [gather1, hn] at h
            | box cells =>
              have h : as = .box n :: as2 ∧ ps = refO H n ++ ps2 ∧ bs = bs2 := by cases hmd : ms.headD false <;> simp [gather1, hn, hmd] at h <;> exact ⟨h.1.symm, h.2.1.symm, h.2.2.symm⟩
              obtain ⟨rfl, rfl, rfl⟩ := h
              cases hv with | ref _ hv =>
              obtain ⟨b, hb, rfl⟩ := hv _ hn
              refine Rel2.cons ⟨⟨cells, hn⟩, ?_, b, hb, rfl⟩ (hrec.mono fun _ _ _ ha => ha.mono (by simp; intro n hn; exact .inr hn) (fun _ h => h))
              simp [refO, hn]
        | succ off => cases hmd : ms.headD false <;> rw [hmd] at h <;> exact dat _ hv h
      | own n off len =>
        cases hmd : ms.headD false with
        | false => rw [hmd] at h; exact dat _ hv h
        | true =>
          rw [hmd] at h
          cases hn : H n with
          | none => simp [gather1, hn] at h
          | some ob =>
            cases ob with
            | box c => simp [gather1, hn] at h
            | arr m xs =>
              simp [gather1, hn] at h
              obtain ⟨rfl, rfl, rfl⟩ := h
              exact Rel2.cons ⟨⟨m, xs, hn⟩, by simp, hv⟩ (hrec.mono fun _ _ _ ha => ha.mono (fun k hk => List.mem_cons_of_mem _ hk) (fun _ h => h))
      | nils =>
        cases hmd : ms.headD false with
        | false => rw [hmd] at h; exact dat _ hv h
        | true =>
          rw [hmd] at h
          simp [gather1] at h
          obtain ⟨rfl, rfl, rfl⟩ := h
          cases hv
          exact Rel2.cons rfl hrec
      | _ => cases hmd : ms.headD false <;> rw [hmd] at h <;> exact dat _ hv h

/-- A name that was handed on comes back: as a pointer to a box, or as an array. -/
inductive OutAs : Arg → V → Nat → Nat → Prop
  | box (n j off : Nat) : OutAs (.box n) (.ref j off) n j
  | own (n off len j off' len' : Nat) : OutAs (.own n off len) (.own j off' len') n j

theorem backTo_some : ∀ {as : List Arg} {os : List V} {j n : Nat}, backTo as os j = some n → ∃ (i : Nat) (a : Arg) (o : V), as[i]? = some a ∧ os[i]? = some o ∧ OutAs a o n j := by
  intro as
  induction as with
  | nil => intro os j n h; cases os <;> simp [backTo] at h
  | cons a as ih =>
    intro os j n h
    cases os with
    | nil => cases a <;> simp [backTo] at h
    | cons o os =>
      have rec_ : backTo as os j = some n → ∃ (i : Nat) (a' : Arg) (o' : V), (a :: as)[i]? = some a' ∧ (o :: os)[i]? = some o' ∧ OutAs a' o' n j := fun h => by
        obtain ⟨i, a', o', h1, h2, h3⟩ := ih h
        exact ⟨i + 1, a', o', by simpa using h1, by simpa using h2, h3⟩
      cases a with
      | dat x => exact rec_ (by simpa [backTo] using h)
      | nils => exact rec_ (by simpa [backTo] using h)
      | box m =>
        cases o with
        | ref k off =>
          simp only [backTo] at h
          cases hk : k == j with
          | true => rw [hk] at h; simp at h hk; subst h; subst hk; exact ⟨0, _, _, rfl, rfl, .box _ _ _⟩
          | false => rw [hk] at h; exact rec_ h
        | _ => exact rec_ (by simpa [backTo] using h)
      | own m off len =>
        cases o with
        | own k off' len' =>
          simp only [backTo] at h
          cases hk : k == j with
          | true => rw [hk] at h; simp at h hk; subst h; subst hk; exact ⟨0, _, _, rfl, rfl, .own _ _ _ _ _ _⟩
          | false => rw [hk] at h; exact rec_ h
        | _ => exact rec_ (by simpa [backTo] using h)

theorem names_inj : ∀ {as : List Arg}, nodup (as.filterMap Arg.name?) = true → ∀ {i i' : Nat} {a a' : Arg} {n : Nat}, as[i]? = some a → a.name? = some n → as[i']? = some a' → a'.name? = some n → i = i' := by
  intro as
  induction as with
  | nil => intro _ i i' a a' n h; simp at h
  | cons x as ih =>
    intro h i i' a a' n h1 h2 h3 h4
    have htl : nodup (as.filterMap Arg.name?) = true := by
      cases hx : x.name? with
      | none => simpa [List.filterMap_cons, hx] using h
      | some k => simp only [List.filterMap_cons, hx, nodup, Bool.and_eq_true] at h; exact h.2
    have hd : ∀ (k j : Nat) (y : Arg), x.name? = some k → as[j]? = some y → y.name? = some k → False := fun k j y hx hy hyk => by
      simp only [List.filterMap_cons, hx, nodup, Bool.and_eq_true, Bool.not_eq_true'] at h
      have : (as.filterMap Arg.name?).contains k = true := by
        simp only [List.contains_iff_mem, List.mem_filterMap]
        exact ⟨y, List.mem_of_getElem? hy, hyk⟩
      rw [this] at h; cases h.1
    cases i with
    | zero =>
      cases i' with
      | zero => rfl
      | succ i' => simp at h1 h3; subst h1; exact (hd n i' a' h2 h3 h4).elim
    | succ i =>
      cases i' with
      | zero => simp at h1 h3; subst h3; exact (hd n i a h4 h1 h2).elim
      | succ i' => exact congrArg (· + 1) (ih htl (i := i) (i' := i') (by simpa using h1) h2 (by simpa using h3) h4)

theorem OutAs.name {a : Arg} {o : V} {n j : Nat} (h : OutAs a o n j) : a.name? = some n := by cases h <;> rfl
theorem OutAs.inj {a : Arg} {o : V} {n j j' : Nat} (h : OutAs a o n j) (h' : OutAs a o n j') : j = j' := by cases h <;> cases h' <;> rfl

theorem outsFit_at : ∀ {H' : List (Nat × AObj)} {as : List Arg} {os : List V}, outsFit H' as os = true → ∀ (i n : Nat), as[i]? = some (.box n) → ∃ k, os[i]? = some (.ref k 0) ∧ ∃ c, hget H' k = some (.box c) := by
  intro H' as
  induction as with
  | nil => intro os h i n hi; simp at hi
  | cons a as ih =>
    intro os h i n hi
    cases os with
    | nil => cases a <;> simp [outsFit] at h
    | cons o os =>
      have rec_ : outsFit H' as os = true → (∀ m, a ≠ .box m) → ∃ k, (o :: os)[i]? = some (.ref k 0) ∧ ∃ c, hget H' k = some (.box c) := fun h hne => by
        cases i with
        | zero => simp at hi; exact absurd hi (hne n)
        | succ i => obtain ⟨k, h1, h2⟩ := ih h i n (by simpa using hi); exact ⟨k, by simpa using h1, h2⟩
      cases a with
      | dat x => exact rec_ (by simpa [outsFit] using h) (fun _ e => by cases e)
      | nils => exact rec_ (by simpa [outsFit] using h) (fun _ e => by cases e)
      | own m off len => cases o <;> simp [outsFit] at h <;> first | exact rec_ h (fun _ e => by cases e) | exact rec_ h.2 (fun _ e => by cases e)
      | box m =>
        cases o with
        | ref k off =>
          cases off with
          | zero =>
            simp only [outsFit, Bool.and_eq_true] at h
            cases i with
            | zero =>
              refine ⟨k, rfl, ?_⟩
              cases hk : hget H' k with
              | none => rw [hk] at h; simp [isBox] at h
              | some o => cases o with
                | box c => exact ⟨c, rfl⟩
                | arr m xs => rw [hk] at h; simp [isBox] at h
            | succ i => obtain ⟨k', h1, h2⟩ := ih h.2 i n (by simpa using hi); exact ⟨k', by simpa using h1, h2⟩
          | succ off => simp [outsFit] at h
        | _ => simp [outsFit] at h

theorem outsFit_own : ∀ {H' : List (Nat × AObj)} {as : List Arg} {os : List V}, outsFit H' as os = true → ownFit H H' as os → ∀ (i n off len k off' len' : Nat), as[i]? = some (.own n off len) → os[i]? = some (.own k off' len') →
    ∃ m xs, hget H' k = some (.arr m xs) ∧ sameLen (H n) (hget H' k) := by
  intro H' as
  induction as with
  | nil => intro os h _ i n off len k off' len' hi; simp at hi
  | cons a as ih =>
    intro os h hf i n off len k off' len' hi ho
    cases os with
    | nil => simp at ho
    | cons o os =>
      cases i with
      | zero =>
        simp at hi ho
        subst hi; subst ho
        simp only [outsFit, Bool.and_eq_true] at h
        simp only [ownFit] at hf
        cases hk : hget H' k with
        | none => rw [hk] at h; simp [isArr] at h
        | some o => cases o with
          | box c => rw [hk] at h; simp [isArr] at h
          | arr m xs => exact ⟨m, xs, rfl, hk ▸ hf.1⟩
      | succ i =>
        have h2 : outsFit H' as os = true := by
          cases a with
          | dat x => simpa [outsFit] using h
          | nils => simpa [outsFit] using h
          | own m off len => cases o <;> simp [outsFit] at h <;> first | exact h | exact h.2
          | box m =>
            cases o with
            | ref k off => cases off with
              | zero => simp only [outsFit, Bool.and_eq_true] at h; exact h.2
              | succ off => simp [outsFit] at h
            | _ => simp [outsFit] at h
        have hf2 : ownFit H H' as os := by
          cases a with
          | own m off len => cases o <;> first | exact hf | exact hf.2
          | _ => exact hf
        exact ih h2 hf2 i n off len k off' len' (by simpa using hi) (by simpa using ho)

theorem hget_mem : ∀ {l : List (Nat × AObj)} {k : Nat} {o : AObj}, hget l k = some o → (k, o) ∈ l := by
  intro l
  induction l with
  | nil => intro k o h; simp [hget] at h
  | cons a l ih =>
    intro k o h
    obtain ⟨m, o'⟩ := a
    simp only [hget] at h
    cases hm : m == k with
    | true => rw [hm] at h; simp at h hm; subst h; subst hm; exact List.mem_cons_self
    | false => rw [hm] at h; exact List.mem_cons_of_mem _ (ih h)

theorem hasKey_iff : ∀ {l : List (Nat × AObj)} {k : Nat}, hasKey l k = true ↔ hget l k ≠ none := by
  intro l
  induction l with
  | nil => intro k; simp [hasKey, hget]
  | cons a l ih =>
    intro k
    obtain ⟨m, o⟩ := a
    simp only [hasKey, hget, Bool.or_eq_true]
    cases hm : m == k with
    | true => simp
    | false => simp [ih]

theorem mem_hget : ∀ {l : List (Nat × AObj)}, nodup (l.map (·.1)) = true → ∀ {q : Nat × AObj}, q ∈ l → hget l q.1 = some q.2 := by
  intro l
  induction l with
  | nil => intro _ q h; cases h
  | cons a l ih =>
    intro h q hq
    obtain ⟨m, o⟩ := a
    simp only [List.map_cons, nodup, Bool.and_eq_true, Bool.not_eq_true'] at h
    rcases List.mem_cons.1 hq with rfl | hq
    · simp [hget]
    · simp only [hget]
      have hne : (m == q.1) = false := by
        cases hm : m == q.1 with
        | false => rfl
        | true =>
          simp at hm
          have : (l.map (·.1)).contains m = true := by simp; exact ⟨q.2, by rw [hm]; exact hq⟩
          rw [this] at h; simp at h
      rw [hne]
      exact ih h.2 hq

theorem upd_map (r : Nat → Option Nat) (n : Nat) : ∀ (L : List (Nat × AObj)) (G : Heap),
    (∃ q ∈ L, (r q.1).getD 0 = n ∧ updF (L.map fun q => ((r q.1).getD 0, some (renO r q.2))) G n = some (renO r q.2)) ∨
    ((∀ q ∈ L, (r q.1).getD 0 ≠ n) ∧ updF (L.map fun q => ((r q.1).getD 0, some (renO r q.2))) G n = G n) := by
  intro L
  induction L with
  | nil => intro G; exact .inr ⟨by simp, rfl⟩
  | cons x L ih =>
    intro G
    simp only [List.map_cons, updF_cons]
    rcases ih (fun m => if (r x.1).getD 0 = m then some (renO r x.2) else G m) with ⟨q, hq, h1, h2⟩ | ⟨h1, h2⟩
    · exact .inl ⟨q, List.mem_cons_of_mem _ hq, h1, h2⟩
    · by_cases hx : (r x.1).getD 0 = n
      · exact .inl ⟨x, List.mem_cons_self, hx, by rw [h2, if_pos hx]⟩
      · refine .inr ⟨fun q hq => ?_, by rw [h2, if_neg hx]⟩
        rcases List.mem_cons.1 hq with rfl | hq
        · exact hx
        · exact h1 q hq

end
end Go.Rx
