/-
  Part of the proof that the abstract evaluator is right about the model's run; each lemma names its conditions.
-/
import Derived.Test.YtedopmfciabdcaaRxSound26
namespace Go.Rx
open Go Go.RowKit

section
variable {P : Program} {T : Tys} {okIn U : Nat → Prop} {w0 : World} {N : Slots} {Q : Exit → Act → World → Prop}

def got (listed : Array Bool) (i : Nat) : Bool := listed.getD i false

def pS (listed : Array Bool) (m : Nat) : Prop := m < 1000 ∨ ∃ i, got listed i = true ∧ 1000 * (i + 1) ≤ m ∧ m < 1000 * (i + 1) + 1000

theorem got_set {listed : Array Bool} {i : Nat} (h : i < listed.size) (j : Nat) : got (listed.setIfInBounds i true) j = (got listed j || j == i) := by
  unfold got
  by_cases hij : i = j
  · subst hij; simp [Array.getD, h]
  · have : (j == i) = false := by simpa using fun e => hij e.symm
    rw [getD_set_ne false hij, this, Bool.or_false]

theorem count_false {listed : Array Bool} {i : Nat} (h : i < listed.size) (hf : got listed i = false) : (listed.setIfInBounds i true).toList.count false + 1 = listed.toList.count false := by
  have h' : i < listed.toList.length := by simpa using h
  have hi : listed.toList[i] = false := by unfold got at hf; simpa [Array.getD, h] using hf
  have hpos : 0 < listed.toList.count false := List.count_pos_iff.2 (by rw [← hi]; exact List.getElem_mem h')
  rw [Array.toList_setIfInBounds, List.count_set h', hi]
  have e1 : (false == false) = true := rfl
  have e2 : (true == false) = false := rfl
  rw [if_pos e1, if_neg (by rw [e2]; simp)]
  omega

theorem draw_sound (hT : TyOK P T) {ops : Array Oper} (hdst : ∀ o ∈ ops.toList, ∀ d, o.dst = some d → N.can d) {K : St → Prop}
    (hQ : ∀ s a w, SR okIn U w0 N (fun _ => True) (eget s.env) (uget s.H) a w → K s → Q .normal a w)
    {s0 : St} {a : Act} {w : World} (h0 : SR okIn U w0 N (Lt 1000) (eget s0.env) (uget s0.H) a w)
    (hv : drawVC T P ops.toList 0 ops.toList s0 [] fun s' fs => Req (commP 0 ops.toList fs) (K s')) :
    wpAny P .any ops Q ops.size (Array.replicate ops.size false) a w := by
  obtain ⟨es, s', hr, hc, hK⟩ := draw_runs hv
  obtain ⟨hlen, he', hH', hat⟩ := hr.at
  simp only [List.append_nil, commP, commOK, Bool.and_eq_true, List.reverse_reverse] at hc
  obtain ⟨⟨hedge, _⟩, hcomm⟩ := hc
  obtain ⟨_, hbef⟩ := befs_spec (l := ops.toList) (acc := []) (i := 0) rfl hedge
  have hn : es.length = ops.size := by rw [hlen]; simp
  have hop : ∀ {i : Nat} {o : Oper}, ops[i]? = some o → ops.toList[i]? = some o := fun h => by rw [Array.getElem?_toList]; exact h
  -- marks
  have hpair : ∀ (i j : Nat) x y, j < i → es[i]? = some x → es[j]? = some y → j ∉ (befs [] ops.toList).getD i [] → Apart x.f y.f := by
    intro i j x y hji hx hy hnb
    have hi : i < ops.toList.length := by
      have := (List.getElem?_eq_some_iff.1 hx).1; omega
    have h1 := List.all_eq_true.1 hcomm i (List.mem_range.2 hi)
    have h2 := List.all_eq_true.1 h1 j (List.mem_range.2 hji)
    rw [List.getElem?_map, List.getElem?_map, hx, hy] at h2
    simp only [Option.map_some, Bool.or_eq_true] at h2
    rcases h2 with h2 | h2
    · exact absurd (by simpa using h2) hnb
    · exact apartF_spec h2
  -- closed sets
  have hclosed : ∀ (S : Nat → Bool), (∀ i o, ops[i]? = some o → S i = true → ∀ e ∈ o.after, Region.binds .any e = true → S e.on = true) →
      ∀ (n i : Nat) o, i < n → ops[i]? = some o → (∀ e ∈ o.after, Region.binds .any e = true → S e.on = true) → ∀ k ∈ (befs [] ops.toList).getD i [], S k = true := by
    intro S hS n
    induction n with
    | zero => intro i o hi; omega
    | succ n ih =>
      intro i o hi ho hall k hk
      obtain ⟨hlt, hb⟩ := hbef i o (hop ho)
      obtain ⟨e, hm, hbe, hcase⟩ := hb k (by simpa using hk)
      have hon := hall e hm hbe
      rcases hcase with rfl | hk'
      · exact hon
      · have hl := hlt e hm hbe
        have hsz : e.on < ops.size := by
          have := (Array.getElem?_eq_some_iff.1 ho).1; omega
        obtain ⟨o', ho'⟩ : ∃ o', ops[e.on]? = some o' := ⟨_, Array.getElem?_eq_getElem hsz⟩
        exact ih e.on o' (by omega) ho' (hS e.on o' ho' hon) k hk'
  have main : ∀ (fuel : Nat) (listed : Array Bool) (a : Act) (w : World), listed.size = ops.size → listed.toList.count false = fuel →
      (∀ i o, ops[i]? = some o → got listed i = true → ∀ e ∈ o.after, Region.binds .any e = true → got listed e.on = true) →
      SR okIn U w0 N (pS listed) (runG (got listed) 0 (wE es) (eget s0.env)) (runG (got listed) 0 (wH es) (uget s0.H)) a w →
      wpAny P .any ops Q fuel listed a w := by
    intro fuel
    have fin : ∀ (listed : Array Bool) (a : Act) (w : World), (∀ i, i < ops.size → got listed i = true) →
        SR okIn U w0 N (pS listed) (runG (got listed) 0 (wE es) (eget s0.env)) (runG (got listed) 0 (wH es) (uget s0.H)) a w → Q .normal a w := by
      intro listed a w hall h
      refine hQ s' a w ?_ hK
      have h1 : runG (got listed) 0 (wE es) (eget s0.env) = eget s'.env := by
        rw [he']; funext t
        refine runG_agree (fun j w' hj hne => ?_) rfl
        have : j < (wE es).length := (List.getElem?_eq_some_iff.1 hj).1
        exact absurd (by simpa using hall j (by simpa [wE, hn] using this)) hne
      have h2 : runG (got listed) 0 (wH es) (uget s0.H) = uget s'.H := by
        rw [hH']; funext t
        refine runG_agree (fun j w' hj hne => ?_) rfl
        have : j < (wH es).length := (List.getElem?_eq_some_iff.1 hj).1
        exact absurd (by simpa using hall j (by simpa [wH, hn] using this)) hne
      rw [h1, h2] at h
      exact h.mono fun _ _ => trivial
    have allof : ∀ (listed : Array Bool), listed.size = ops.size → Region.ready .any ops listed = [] → ∀ n i, i < n → i < ops.size → got listed i = true := by
      intro listed hsz hr n
      induction n with
      | zero => intro i hi; omega
      | succ n ih =>
        intro i hi hlt
        cases hg : got listed i with
        | true => rfl
        | false =>
          exfalso
          obtain ⟨o, ho⟩ : ∃ o, ops[i]? = some o := ⟨_, Array.getElem?_eq_getElem hlt⟩
          have : i ∈ Region.ready .any ops listed := by
            rw [mem_ready]
            refine ⟨?_, o, ho, fun e hm hb => ?_⟩
            · have hi' : i < listed.size := by omega
              unfold got at hg
              simpa [Array.getD, hi'] using hg
            · have hl := (hbef i o (hop ho)).1 e hm hb
              exact ih e.on (by omega) (by omega)
          rw [hr] at this; cases this
    induction fuel with
    | zero =>
      intro listed a w hsz hcnt hdc h
      have hall : ∀ i, i < ops.size → got listed i = true := fun i hi => by
        cases hg : got listed i with
        | true => rfl
        | false =>
          have := count_false (listed := listed) (i := i) (by omega) hg
          omega
      refine ⟨?_, fin listed a w hall h⟩
      cases hr : Region.ready .any ops listed with
      | nil => rfl
      | cons i rs =>
        exfalso
        have : i ∈ Region.ready .any ops listed := by rw [hr]; simp
        rw [mem_ready] at this
        obtain ⟨h1, o, ho, _⟩ := this
        have hi := (Array.getElem?_eq_some_iff.1 ho).1
        have h2 := hall i hi
        unfold got at h2
        have hi' : i < listed.size := by omega
        simp [Array.getD, hi'] at h1 h2
        rw [h1] at h2; cases h2
    | succ fuel ih =>
      intro listed a w hsz hcnt hdc h
      refine ⟨fun hr => fin listed a w (fun i hi => allof listed hsz hr (i + 1) i (by omega) hi) h, fun i hi => ?_⟩
      rw [mem_ready] at hi
      obtain ⟨hi0, o, ho, hedges⟩ := hi
      have hlt : i < ops.size := (Array.getElem?_eq_some_iff.1 ho).1
      have hlt' : i < listed.size := by omega
      have hgi : got listed i = false := by unfold got; simp [Array.getD, hlt'] at hi0 ⊢; exact hi0
      obtain ⟨x, hx, hxd, hA⟩ := hat i o (hop ho)
      have hbi := hclosed (got listed) hdc (i + 1) i o (by omega) ho hedges
      -- every other one that tells the states apart is apart
      have hap : ∀ (j : Nat) y, es[j]? = some y → j ≠ i → got listed j ≠ decide (j < i) → Apart x.f y.f := by
        intro j y hy hji hne
        rcases Nat.lt_or_ge j i with hlt2 | hge
        · have hgj : got listed j = false := by cases hg : got listed j <;> simp [hg, hlt2] at hne ⊢
          exact hpair i j x y hlt2 hx hy fun hb => by rw [hbi j hb] at hgj; cases hgj
        · have hlt3 : i < j := by omega
          have hgj : got listed j = true := by
            cases hg : got listed j
            · rw [hg] at hne; simp at hne; omega
            · rfl
          have hjs : j < ops.size := by have := (List.getElem?_eq_some_iff.1 hy).1; omega
          obtain ⟨oj, hoj⟩ : ∃ o', ops[j]? = some o' := ⟨_, Array.getElem?_eq_getElem hjs⟩
          have hbj := hclosed (got listed) hdc (j + 1) j oj (by omega) hoj (hdc j oj hoj hgj)
          exact (hpair j i y x hlt3 hy hx fun hb => by rw [hbj i hb] at hgi; cases hgi).symm
      have hft := hA.foot
      have hloc : ∃ f', Acts T P ops.toList i o (runG (got listed) 0 (wE es) (eget s0.env)) (runG (got listed) 0 (wH es) (uget s0.H)) x.v x.u f' := by
        rw [Nat.zero_add] at hA
        refine hA.loc (fun t ht => ?_) (fun n hn' => ?_)
        · rw [← runG_take (S := fun j => decide (j < i)) (k := 0) (i := i) (fun j => by simp)]
          refine runG_agree (fun j w' hj hne => ?_) rfl
          simp only [wE, List.getElem?_map, Option.map_eq_some_iff] at hj
          obtain ⟨y, hy, rfl⟩ := hj
          rw [dstW_keys]
          intro hd
          rw [Nat.zero_add] at hne
          have hji : j ≠ i := fun e => by subst e; rw [hgi] at hne; simp at hne
          have hyf : y.f.wt = y.dst := by
            have hjs : j < ops.size := by have := (List.getElem?_eq_some_iff.1 hy).1; omega
            obtain ⟨oj, hoj⟩ : ∃ o', ops[j]? = some o' := ⟨_, Array.getElem?_eq_getElem hjs⟩
            obtain ⟨y', hy', hyd, hAy⟩ := hat j oj (hop hoj)
            rw [hy] at hy'; cases hy'
            rw [hAy.foot.1, hyd]
          exact (hap j y hy hji (Ne.symm hne)).rt t (hyf.trans hd) ht
        · rw [← runG_take (S := fun j => decide (j < i)) (k := 0) (i := i) (fun j => by simp)]
          refine runG_agree (fun j w' hj hne => ?_) rfl
          simp only [wH, List.getElem?_map, Option.map_eq_some_iff] at hj
          obtain ⟨y, hy, rfl⟩ := hj
          intro hd
          rw [Nat.zero_add] at hne
          have hji : j ≠ i := fun e => by subst e; rw [hgi] at hne; simp at hne
          have hyf : y.f.wn = y.u.map (·.1) := by
            have hjs : j < ops.size := by have := (List.getElem?_eq_some_iff.1 hy).1; omega
            obtain ⟨oj, hoj⟩ : ∃ o', ops[j]? = some o' := ⟨_, Array.getElem?_eq_getElem hjs⟩
            obtain ⟨y', hy', hyd, hAy⟩ := hat j oj (hop hoj)
            rw [hy] at hy'; cases hy'
            exact hAy.foot.2
          exact (hap j y hy hji (Ne.symm hne)).rn n (by rw [hyf]; exact hd) hn'
      obtain ⟨f', hA'⟩ := hloc
      have hfresh : Fresh (pS listed) (1000 * (i + 1)) := by
        rintro n h1 h2 (h3 | ⟨k, hk, h4, h5⟩)
        · omega
        · have : k = i := by omega
          subst this; rw [hgi] at hk; cases hk
      refine acts_wp hT h ho hfresh (hdst o (List.mem_of_getElem? (hop ho))) hA' fun a' w' h' => ?_
      refine ih _ a' w' (by simpa using hsz) (by have := count_false hlt' hgi; omega) (fun k ok hok hgk e hm hb => ?_) ?_
      · rw [got_set hlt'] at hgk ⊢
        simp only [Bool.or_eq_true, beq_iff_eq] at hgk ⊢
        rcases hgk with hgk | rfl
        · exact .inl (hdc k ok hok hgk e hm hb)
        · rw [ho] at hok; cases hok
          exact .inl (hedges e hm hb)
      · have hE : runG (got (listed.setIfInBounds i true)) 0 (wE es) (eget s0.env) = put1 (runG (got listed) 0 (wE es) (eget s0.env)) o.dst x.v := by
          rw [put1_upG, ← hxd]
          refine runG_ins (i := i) (w := dstW x.dst x.v) (by simp [wE, hx]) (by simpa using hgi) (fun j => by simpa using got_set hlt' j) (fun j w' hij hj hSj n hn1 => ?_)
          simp only [wE, List.getElem?_map, Option.map_eq_some_iff] at hj
          obtain ⟨y, hy, rfl⟩ := hj
          rw [dstW_keys] at hn1 ⊢
          rw [Nat.zero_add] at hSj
          have hjs : j < ops.size := by have := (List.getElem?_eq_some_iff.1 hy).1; omega
          obtain ⟨oj, hoj⟩ : ∃ o', ops[j]? = some o' := ⟨_, Array.getElem?_eq_getElem hjs⟩
          obtain ⟨y', hy', hyd, hAy⟩ := hat j oj (hop hoj)
          rw [hy] at hy'; cases hy'
          have := (hap j y hy (by omega) (by rw [hSj]; simp; omega)).tt n (by rw [hft.1, ← hxd]; exact hn1)
          rw [hAy.foot.1, ← hyd] at this
          exact this
        have hHh : runG (got (listed.setIfInBounds i true)) 0 (wH es) (uget s0.H) = updF x.u (runG (got listed) 0 (wH es) (uget s0.H)) := by
          rw [updF_upG]
          refine runG_ins (i := i) (w := x.u) (by simp [wH, hx]) (by simpa using hgi) (fun j => by simpa using got_set hlt' j) (fun j w' hij hj hSj n hn1 => ?_)
          simp only [wH, List.getElem?_map, Option.map_eq_some_iff] at hj
          obtain ⟨y, hy, rfl⟩ := hj
          rw [Nat.zero_add] at hSj
          have hjs : j < ops.size := by have := (List.getElem?_eq_some_iff.1 hy).1; omega
          obtain ⟨oj, hoj⟩ : ∃ o', ops[j]? = some o' := ⟨_, Array.getElem?_eq_getElem hjs⟩
          obtain ⟨y', hy', hyd, hAy⟩ := hat j oj (hop hoj)
          rw [hy] at hy'; cases hy'
          have := (hap j y hy (by omega) (by rw [hSj]; simp; omega)).nn n (by rw [hft.2]; exact hn1)
          rw [hAy.foot.2] at this
          exact this
        rw [hE, hHh]
        refine h'.mono fun n hn' => ?_
        rcases hn' with (h1 | ⟨k, hk, h2⟩) | h2
        · exact .inl h1
        · exact .inr ⟨k, by rw [got_set hlt', hk]; rfl, h2⟩
        · exact .inr ⟨i, by rw [got_set hlt']; simp, h2⟩
  have hgf : ∀ i, got (Array.replicate ops.size false) i = false := fun i => by
    unfold got
    by_cases hi : i < ops.size <;> simp [Array.getD, hi]
  refine main ops.size _ a w (by simp) (by simp) (fun i o _ hg => by rw [hgf] at hg; cases hg) ?_
  have h1 : ∀ {α : Type} (ws : List (List (Nat × α))) (σ : Nat → α), runG (got (Array.replicate ops.size false)) 0 ws σ = σ := by
    intro α ws σ
    rw [runG_take (i := 0) (fun j => by rw [hgf]; simp)]
    rfl
  rw [h1, h1]
  exact h0.mono fun n hn => .inl hn

end
end Go.Rx
