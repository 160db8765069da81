/-
  Part of the proof that the abstract evaluator is right about the model's run; each lemma names its conditions.
-/
import Derived.Test.YtedopmfciabdcaaRxSound17
namespace Go.Rx
open Go Go.RowKit

section
variable {P : Program} {T : Tys} {okIn U : Nat → Prop} {w0 : World} {p : Nat → Prop} {w w' : World} {ok ok' : Nat → Prop} {lam lam' : Nat → Option Nat} {H : Heap} {v0 : V} {u0 : Upd} {cv : Value}

theorem Flat.rel {d : D} (h : Flat d) : ∀ {v : Value}, DRel w ok d v → DRel w ok' d v := by
  induction h with
  | int k n => intro v hd; cases hd; exact .int k n
  | bool b => intro v hd; cases hd; exact .bool b
  | str s => intro v hd; cases hd; exact .str s ‹_›
  | nil =>
    intro v hd
    generalize he : D.sl [] = e at hd
    cases hd with
    | sl0 A c => exact .sl0 A c
    | sl xs m b o cap vs hc hm hb hl hv hd => cases he; exact .sl0 _ _
    | _ => cases he
  | agg h ih => intro v hd; cases hd with | agg _ vs hl hd => exact .agg _ vs hl fun i d v h1 h2 => ih d (List.mem_of_getElem? h1) (hd i d v h1 h2)
  | nilp => intro v hd; cases hd; exact .nilp
  | und => intro v hd; cases hd; exact .und

theorem FlatV.rel {x : V} (h : FlatV x) : ∀ {v : Value}, VRel w ok lam H x v → VRel w ok' lam H x v := by
  induction h with
  | d h => intro v hv; exact .d (h.rel hv.inv_d)
  | ref n off => intro v hv; cases hv with | ref h1 h2 => exact .ref h1 h2
  | el n i j => intro v hv; cases hv with | el h1 h2 => exact .el h1 h2
  | own n i j => intro v hv; cases hv with | own h1 h2 => exact .own h1 h2
  | nils => intro v hv; cases hv; exact .nils
  | agg h ih => intro v hv; obtain ⟨cs, rfl, hr⟩ := hv.inv_agg; exact VRel.mkAgg (hr.mono fun x y hx hxy => ih x hx hxy)
  | tup h ih => intro v hv; obtain ⟨cs, rfl, hr⟩ := hv.inv_tup; exact VRel.mkTup (hr.mono fun x y hx hxy => ih x hx hxy)
  | dead => intro v hv; exact .dead

theorem FlatO.rel {o : AObj} (h : FlatO o) {n : Nat} (hv : ObjRel w ok lam H n o) : ObjRel w ok' lam H n o := by
  cases o with
  | box cells =>
    obtain ⟨b, cs, Te, g1, g2, g3, g4⟩ := hv
    exact ⟨b, cs, Te, g1, g2, g3, fun i v c hv hc => (h v (List.mem_of_getElem? hv)).rel (g4 i v c hv hc)⟩
  | arr m xs =>
    obtain ⟨g1, g2, g3⟩ := hv
    refine ⟨g1, g2, g3.imp id fun ⟨b, cs, Te, fr, k1, k2, k3, k4, k5⟩ => ⟨b, cs, Te, fr, k1, k2, k3, k4, fun i e j d hi hj => ?_⟩⟩
    obtain ⟨c, hc, hd⟩ := k5 i e j d hi hj
    exact ⟨c, hc, (h e (List.mem_of_getElem? hi) d (List.mem_of_getElem? hj)).rel hd⟩

def ArgRel (w : World) (ok : Nat → Prop) (lam : Nat → Option Nat) (H : Heap) (ps bs : List Nat) : Arg → Value → Prop
  | .dat x, v => DRel w (okB ok lam H bs) x v
  | .box n, v => (∃ cells, H n = some (.box cells)) ∧ n ∈ ps ∧ ∃ b, lam n = some b ∧ v = .pointer (some ⟨b, 0, none⟩)

theorem ArgRel.mono {ps bs ps' bs' : List Nat} (h1 : ∀ n ∈ ps, n ∈ ps') (h2 : ∀ n ∈ bs, n ∈ bs') {a : Arg} {v : Value} (h : ArgRel w ok lam H ps bs a v) : ArgRel w ok lam H ps' bs' a v := by
  cases a with
  | dat x => exact DRel.mono h (fun _ _ => rfl) fun b hb => okB_mono hb h2
  | box n => exact ⟨h.1, h1 n h.2.1, h.2.2⟩

theorem gather_sound (hk : HOK w ok lam H) : ∀ {args : List V} {vs : List Value} {as : List Arg} {ps bs : List Nat}, Rel2 (VRel w ok lam H) args vs → gather H args = some (as, ps, bs) → Rel2 (ArgRel w ok lam H ps bs) as vs := by
  intro args
  induction args with
  | nil => intro vs as ps bs hr h; rw [hr.nil_left]; simp [gather] at h; rw [h.1]; exact Rel2.nil _
  | cons x xs ih =>
    intro vs as ps bs hr h
    obtain ⟨v, m, rfl, hv, hm⟩ := hr.uncons
    simp only [gather] at h
    cases hg : gather H xs with
    | none => rw [hg] at h; simp at h
    | some q =>
      obtain ⟨as2, ps2, bs2⟩ := q
      rw [hg] at h
      simp only at h
      have hrec := ih hm hg
      have dat : ∀ (y : V), VRel w ok lam H y v → (match toD H y with | some (x, l) => some (Arg.dat x :: as2, ps2, l ++ bs2) | none => none) = some (as, ps, bs) → Rel2 (ArgRel w ok lam H ps bs) as (v :: m) := by
        intro y hy h
        cases hd : toD H y with
        | none => rw [hd] at h; simp at h
        | some q =>
          obtain ⟨d, l⟩ := q
          rw [hd] at h
          simp at h
          obtain ⟨rfl, rfl, rfl⟩ := h
          exact Rel2.cons (DRel.mono (toD_sound hk hy hd) (fun _ _ => rfl) fun b hb => okB_mono hb (by simp; intro n hn; exact .inl hn)) (hrec.mono fun _ _ _ ha => ha.mono (fun _ h => h) (by simp; intro n hn; exact .inr hn))
      cases x with
      | ref n off =>
        cases off with
        | zero =>
          simp only at h
          cases hn : H n with
          | none => rw [hn] at h; simp at h
          | some ob =>
            cases ob with
            | arr m xs => rw [hn] at h; simp at h
            | box cells =>
              rw [hn] at h
              simp at h
              obtain ⟨rfl, rfl, rfl⟩ := h
              cases hv with | ref _ hv =>
              obtain ⟨b, hb, rfl⟩ := hv _ hn
              refine Rel2.cons ⟨⟨cells, hn⟩, ?_, b, hb, rfl⟩ (hrec.mono fun _ _ _ ha => ha.mono (by simp; intro n hn; exact .inr hn) (fun _ h => h))
              simp [refO, hn]
        | succ off => exact dat _ hv h
      | _ => exact dat _ hv h

theorem backTo_some : ∀ {as : List Arg} {os : List V} {j n : Nat}, backTo as os j = some n → ∃ (i off : Nat), as[i]? = some (.box n) ∧ os[i]? = some (.ref j off) := by
  intro as
  induction as with
  | nil => intro os j n h; cases os <;> simp [backTo] at h
  | cons a as ih =>
    intro os j n h
    cases os with
    | nil => cases a <;> simp [backTo] at h
    | cons o os =>
      have rec_ : backTo as os j = some n → ∃ (i off : Nat), (a :: as)[i]? = some (.box n) ∧ (o :: os)[i]? = some (.ref j off) := fun h => by
        obtain ⟨i, off, h1, h2⟩ := ih h
        exact ⟨i + 1, off, by simpa using h1, by simpa using h2⟩
      cases a with
      | dat x => exact rec_ (by simpa [backTo] using h)
      | box m =>
        cases o with
        | ref k off =>
          simp only [backTo] at h
          cases hk : k == j with
          | true => rw [hk] at h; simp at h hk; subst h; subst hk; exact ⟨0, off, rfl, rfl⟩
          | false => rw [hk] at h; exact rec_ h
        | _ => exact rec_ (by simpa [backTo] using h)

theorem backTo_none : ∀ {as : List Arg} {os : List V} {j : Nat} {i n off : Nat}, as[i]? = some (.box n) → os[i]? = some (.ref j off) → backTo as os j ≠ none := by
  intro as
  induction as with
  | nil => intro os j i n off h; simp at h
  | cons a as ih =>
    intro os j i n off h1 h2
    cases os with
    | nil => simp at h2
    | cons o os =>
      cases i with
      | zero =>
        simp at h1 h2; subst h1; subst h2
        simp [backTo]
      | succ i =>
        have hr := ih (by simpa using h1) (by simpa using h2)
        cases a with
        | dat x => simpa [backTo] using hr
        | box m =>
          cases o with
          | ref k off' =>
            simp only [backTo]
            cases hk : k == j <;> simp [hr]
          | _ => simpa [backTo] using hr

theorem outsFit_at : ∀ {H' : List (Nat × AObj)} {as : List Arg} {os : List V}, outsFit H' as os = true → ∀ (i n : Nat), as[i]? = some (.box n) → ∃ k, os[i]? = some (.ref k 0) ∧ ∃ c, hget H' k = some (.box c) := by
  intro H' as
  induction as with
  | nil => intro os h i n hi; simp at hi
  | cons a as ih =>
    intro os h i n hi
    cases os with
    | nil => cases a <;> simp [outsFit] at h
    | cons o os =>
      cases a with
      | dat x =>
        simp only [outsFit] at h
        cases i with
        | zero => simp at hi
        | succ i => obtain ⟨k, h1, h2⟩ := ih h i n (by simpa using hi); exact ⟨k, by simpa using h1, h2⟩
      | box m =>
        cases o with
        | ref k off =>
          cases off with
          | zero =>
            simp only [outsFit, Bool.and_eq_true] at h
            cases i with
            | zero =>
              refine ⟨k, rfl, ?_⟩
              cases hk : hget H' k with
              | none => rw [hk] at h; simp [isBox] at h
              | some o => cases o with
                | box c => exact ⟨c, rfl⟩
                | arr m xs => rw [hk] at h; simp [isBox] at h
            | succ i => obtain ⟨k', h1, h2⟩ := ih h.2 i n (by simpa using hi); exact ⟨k', by simpa using h1, h2⟩
          | succ off => simp [outsFit] at h
        | _ => simp [outsFit] at h

theorem hget_mem : ∀ {l : List (Nat × AObj)} {k : Nat} {o : AObj}, hget l k = some o → (k, o) ∈ l := by
  intro l
  induction l with
  | nil => intro k o h; simp [hget] at h
  | cons a l ih =>
    intro k o h
    obtain ⟨m, o'⟩ := a
    simp only [hget] at h
    cases hm : m == k with
    | true => rw [hm] at h; simp at h hm; subst h; subst hm; exact List.mem_cons_self
    | false => rw [hm] at h; exact List.mem_cons_of_mem _ (ih h)

theorem hasKey_iff : ∀ {l : List (Nat × AObj)} {k : Nat}, hasKey l k = true ↔ hget l k ≠ none := by
  intro l
  induction l with
  | nil => intro k; simp [hasKey, hget]
  | cons a l ih =>
    intro k
    obtain ⟨m, o⟩ := a
    simp only [hasKey, hget, Bool.or_eq_true]
    cases hm : m == k with
    | true => simp
    | false => simp [ih]

theorem mem_hget : ∀ {l : List (Nat × AObj)}, nodup (l.map (·.1)) = true → ∀ {q : Nat × AObj}, q ∈ l → hget l q.1 = some q.2 := by
  intro l
  induction l with
  | nil => intro _ q h; cases h
  | cons a l ih =>
    intro h q hq
    obtain ⟨m, o⟩ := a
    simp only [List.map_cons, nodup, Bool.and_eq_true, Bool.not_eq_true'] at h
    rcases List.mem_cons.1 hq with rfl | hq
    · simp [hget]
    · simp only [hget]
      have hne : (m == q.1) = false := by
        cases hm : m == q.1 with
        | false => rfl
        | true =>
          simp at hm
          have : (l.map (·.1)).contains m = true := by simp; exact ⟨q.2, by rw [hm]; exact hq⟩
          rw [this] at h; simp at h
      rw [hne]
      exact ih h.2 hq

theorem upd_map (r : Nat → Option Nat) (n : Nat) : ∀ (L : List (Nat × AObj)) (G : Heap),
    (∃ q ∈ L, (r q.1).getD 0 = n ∧ updF (L.map fun q => ((r q.1).getD 0, some (renO r q.2))) G n = some (renO r q.2)) ∨
    ((∀ q ∈ L, (r q.1).getD 0 ≠ n) ∧ updF (L.map fun q => ((r q.1).getD 0, some (renO r q.2))) G n = G n) := by
  intro L
  induction L with
  | nil => intro G; exact .inr ⟨by simp, rfl⟩
  | cons x L ih =>
    intro G
    simp only [List.map_cons, updF_cons]
    rcases ih (fun m => if (r x.1).getD 0 = m then some (renO r x.2) else G m) with ⟨q, hq, h1, h2⟩ | ⟨h1, h2⟩
    · exact .inl ⟨q, List.mem_cons_of_mem _ hq, h1, h2⟩
    · by_cases hx : (r x.1).getD 0 = n
      · exact .inl ⟨x, List.mem_cons_self, hx, by rw [h2, if_pos hx]⟩
      · refine .inr ⟨fun q hq => ?_, by rw [h2, if_neg hx]⟩
        rcases List.mem_cons.1 hq with rfl | hq
        · exact hx
        · exact h1 q hq

end
end Go.Rx
