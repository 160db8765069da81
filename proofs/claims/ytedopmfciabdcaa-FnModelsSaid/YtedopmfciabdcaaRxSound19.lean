/-
  Part of the proof that the abstract evaluator is right about the model's run; each lemma names its conditions.
-/
import Derived.Test.YtedopmfciabdcaaRxSound18
namespace Go.Rx
open Go Go.RowKit

section
variable {P : Program} {T : Tys} {okIn U : Nat → Prop} {w0 : World} {p : Nat → Prop} {w w' : World} {ok ok' : Nat → Prop} {lam lam' : Nat → Option Nat} {H : Heap} {v0 : V} {u0 : Upd} {cv : Value}

/-- The state behind a call. -/
theorem after_call (h : Ctx okIn U w0 p w ok lam H) {tb : Nat} (hf : Fresh p tb) {vs : List Value} {as : List Arg} {ps bs gone : List Nat} {outs : List V} {res : V} {H2 : List (Nat × AObj)}
    (hargs : Rel2 (ArgRel w ok lam H ps bs) as vs) (hfit : outsFit H2 as outs = true) (hown : ownFit H H2 as outs) (hnm : nodup (as.filterMap Arg.name?) = true) (hsk : smallKeys H2 = true) (hgp : ∀ n ∈ ps, n ∈ gone)
    {lam2 : Nat → Option Nat} {ok2 okn : Nat → Prop}
    (hfr : Fr (fun b => ∃ n, hget (objs H (idx ps) 0 ps) n ≠ none ∧ (fun k => (ps[k]?).bind lam) n = some b) w w')
    (hk2 : HOK w' ok2 lam2 (hget H2)) (hres : VRel w' okn lam2 (hget H2) res cv) (hobj : ∀ n o, hget H2 n = some o → ObjRel w' okn lam2 (hget H2) n o)
    (houts : ∀ (i : Nat) x v, outs[i]? = some x → vs[i]? = some v → VRel w' ok2 lam2 (hget H2) x v)
    (hown2 : ∀ n b, hget H2 n ≠ none → lam2 n = some b → (∃ n', hget (objs H (idx ps) 0 ps) n' ≠ none ∧ (fun k => (ps[k]?).bind lam) n' = some b) ∨ w.heap.size ≤ b)
    (hon : ∀ b, ok b → okn b) (honlt : ∀ b, okn b → b < w'.heap.size) (honU : ∀ b, okn b → okIn b ∨ U b ∨ w0.heap.size ≤ b)
    (hond : ∀ n b, H n ≠ none → n ∉ gone → lam n = some b → ¬ okn b) (hond2 : ∀ n b, hget H2 n ≠ none → lam2 n = some b → ¬ okn b) :
    ∃ lam', Eff okIn U w0 p (pX p tb) w ok lam H (renV (back tb as outs H2) res) (updF (updOf tb as outs gone H2) H) w' cv lam' okn := by
  simp only [smallKeys, Bool.and_eq_true] at hsk
  obtain ⟨hkeys, hsmall⟩ := hsk
  have hlt1000 : ∀ k, hget H2 k ≠ none → k < 1000 := fun k hk => by
    cases hh : hget H2 k with
    | none => exact absurd hh hk
    | some o => have := List.all_eq_true.1 hsmall _ (hget_mem hh); simpa using this
  have hpsd : ∀ n ∈ ps, H n ≠ none → ∃ k, ps[k]? = some n ∧ hget (objs H (idx ps) 0 ps) k ≠ none := fun n hn hne => by
    obtain ⟨k, hk, rfl⟩ := List.mem_iff_getElem.1 hn
    refine ⟨k, List.getElem?_eq_getElem hk, ?_⟩
    rw [hget_objs0, List.getElem?_eq_getElem hk]
    simpa using hne
  -- owned blocks of what was passed
  have hpas : ∀ b, (∃ n, hget (objs H (idx ps) 0 ps) n ≠ none ∧ (fun k => (ps[k]?).bind lam) n = some b) ↔ ∃ n ∈ ps, H n ≠ none ∧ lam n = some b := fun b => by
    constructor
    · rintro ⟨k, hk, hb⟩
      rw [hget_objs0] at hk
      have hb : (ps[k]?).bind lam = some b := hb
      cases hl : ps[k]? with
      | none => rw [hl] at hk; simp at hk
      | some n => rw [hl] at hk hb; exact ⟨n, List.mem_of_getElem? hl, by simpa using hk, by simpa using hb⟩
    · rintro ⟨n, hn, hne, hb⟩
      obtain ⟨k, h1, h2⟩ := hpsd n hn hne
      exact ⟨k, h2, by show (ps[k]?).bind lam = some b; rw [h1]; exact hb⟩
  have hblk : ∀ k, k < w.heap.size → (∀ n ∈ ps, H n ≠ none → lam n ≠ some k) → w'.heap[k]? = w.heap[k]? := fun k hk hn => hfr.block k hk fun hc => by
    obtain ⟨n, h1, h2, h3⟩ := (hpas k).1 hc
    exact hn n h1 h2 h3
  let r := back tb as outs H2
  -- what comes back
  have hback : ∀ (i : Nat) (a : Arg) (o : V) (n k : Nat), as[i]? = some a → outs[i]? = some o → OutAs a o n k →
      lam2 k = lam n ∧ n ∈ ps ∧ hget H2 k ≠ none ∧ H n ≠ none ∧
      ((∃ c c0, hget H2 k = some (AObj.box c) ∧ H n = some (AObj.box c0)) ∨ (∃ m xs xs', hget H2 k = some (AObj.arr m xs') ∧ H n = some (AObj.arr m xs) ∧ xs.length = xs'.length)) := fun i a o n k hi ho hao => by
    obtain ⟨v, hv, ha⟩ := hargs.get hi
    have hov := houts i _ _ ho hv
    cases hao with
    | box _ _ off =>
      obtain ⟨k', h1, c, h2⟩ := outsFit_at hfit i n hi
      rw [ho] at h1; cases h1
      obtain ⟨⟨c0, hc0⟩, hnp, b, hb, rfl⟩ := ha
      cases hov with | ref _ ho' =>
      obtain ⟨b', hb', he⟩ := ho' _ h2
      simp at he
      subst he
      exact ⟨hb'.trans hb.symm, hnp, by rw [h2]; simp, by rw [hc0]; simp, .inl ⟨c, c0, h2, hc0⟩⟩
    | own _ off len _ off' len' =>
      obtain ⟨m', xs', h1, h2⟩ := outsFit_own hfit hown i n off len k off' len' hi ho
      obtain ⟨⟨m, xs, hn⟩, hnp, hvn⟩ := ha
      rw [hn, h1] at h2
      obtain ⟨rfl, h3⟩ := h2
      refine ⟨?_, hnp, by rw [h1]; simp, by rw [hn]; simp, .inr ⟨m, xs, xs', h1, hn, h3⟩⟩
      cases hvn with | own _ g1 =>
      cases hov with | own _ g2 =>
      obtain ⟨_, q1⟩ := g1 _ _ hn
      obtain ⟨_, q2⟩ := g2 _ _ h1
      rcases q1 with ⟨e1, e2, _⟩ | ⟨b, o, cap, cs, T, fr, e1, e2, _⟩
      · rcases q2 with ⟨f1, _, _⟩ | ⟨b', o', cap', cs', T', fr', f1, f2, _⟩
        · rw [e1, f1]
        · rw [e2] at f2; cases f2
      · rcases q2 with ⟨f1, f2, _⟩ | ⟨b', o', cap', cs', T', fr', f1, f2, _⟩
        · rw [e2] at f2; cases f2
        · rw [e2] at f2; cases f2; rw [e1, f1]
  have hr : ∀ j n, r j = some n → hget H2 j ≠ none ∧ ((∃ (i : Nat) (a : Arg) (o : V), as[i]? = some a ∧ outs[i]? = some o ∧ OutAs a o n j) ∨ (n = tb + j)) := fun j n hj => by
    simp only [r, back] at hj
    cases hb : backTo as outs j with
    | some m =>
      rw [hb] at hj
      simp [orElse] at hj
      subst hj
      obtain ⟨i, a, o, h1, h2, h3⟩ := backTo_some hb
      exact ⟨(hback i a o m j h1 h2 h3).2.2.1, .inl ⟨i, a, o, h1, h2, h3⟩⟩
    | none =>
      rw [hb] at hj
      cases hk : hasKey H2 j with
      | false => rw [hk] at hj; simp [orElse] at hj
      | true => rw [hk] at hj; simp [orElse] at hj; exact ⟨hasKey_iff.1 hk, .inr hj.symm⟩
  have hrk : ∀ j, hget H2 j ≠ none → ∃ n, r j = some n := fun j hj => by
    simp only [r, back]
    cases hb : backTo as outs j with
    | some m => exact ⟨m, rfl⟩
    | none => rw [hasKey_iff.2 hj]; exact ⟨tb + j, rfl⟩
  have hpn : ∀ n, H n ≠ none → p n := h.dom
  have hinj : ∀ j j' n, r j = some n → r j' = some n → j = j' := fun j j' n h1 h2 => by
    obtain ⟨a1, a2⟩ := hr j n h1
    obtain ⟨b1, b2⟩ := hr j' n h2
    rcases a2 with ⟨i, a, o, e1, e2, e3⟩ | e1
    · rcases b2 with ⟨i', a', o', f1, f2, f3⟩ | f1
      · have := names_inj hnm e1 e3.name f1 f3.name
        subst this
        rw [e1] at f1; cases f1
        rw [e2] at f2; cases f2
        exact e3.inj f3
      · exact absurd (hpn n (hback i a o n j e1 e2 e3).2.2.2.1) (hf n (by omega) (by have := hlt1000 j' b1; omega))
    · rcases b2 with ⟨i', a', o', f1, f2, f3⟩ | f1
      · exact absurd (hpn n (hback i' a' o' n j' f1 f2 f3).2.2.2.1) (hf n (by omega) (by have := hlt1000 j a1; omega))
      · omega
  have hrange : ∀ j n, r j = some n → pX p tb n := fun j n hj => by
    obtain ⟨a1, a2⟩ := hr j n hj
    rcases a2 with ⟨i, a, o, e1, e2, e3⟩ | e1
    · exact .inl (hpn n (hback i a o n j e1 e2 e3).2.2.2.1)
    · have := hlt1000 j a1
      exact .inr ⟨by omega, by omega⟩
  let H3 : Heap := updF (updOf tb as outs gone H2) H
  let lamn : Nat → Option Nat := fun n => match H2.find? (fun q => r q.1 == some n) with | some q => lam2 q.1 | none => lam n
  have hH3 : ∀ n, (∃ k o, hget H2 k = some o ∧ r k = some n ∧ H3 n = some (renO r o) ∧ lamn n = lam2 k) ∨ ((∀ k, r k ≠ some n) ∧ H3 n = remF gone H n ∧ lamn n = lam n) := fun n => by
    have hl : ∀ k, r k = some n → lamn n = lam2 k := fun k hk => by
      obtain ⟨hne, _⟩ := hr k n hk
      cases hh : hget H2 k with
      | none => exact absurd hh hne
      | some o =>
        simp only [lamn]
        cases hfi : H2.find? (fun q => r q.1 == some n) with
        | none =>
          have := List.find?_eq_none.1 hfi _ (hget_mem hh)
          simp [hk] at this
        | some q =>
          have := List.find?_some hfi
          simp at this
          simp only
          rw [hinj q.1 k n this hk]
    have hu : H3 = updF (H2.map fun q => ((r q.1).getD 0, some (renO r q.2))) (remF gone H) := by
      simp only [H3, updOf, updF_append, updF_rem]; rfl
    rcases upd_map r n H2 (remF gone H) with ⟨q, hq, h1, h2⟩ | ⟨h1, h2⟩
    · have hk := mem_hget hkeys hq
      obtain ⟨n', hn'⟩ := hrk q.1 (by rw [hk]; simp)
      rw [hn'] at h1
      simp at h1
      subst h1
      exact .inl ⟨q.1, q.2, hk, hn', by rw [hu]; exact h2, hl q.1 hn'⟩
    · refine .inr ⟨fun k hk => ?_, by rw [hu]; exact h2, ?_⟩
      · obtain ⟨hne, _⟩ := hr k n hk
        cases hh : hget H2 k with
        | none => exact hne hh
        | some o => exact h1 _ (hget_mem hh) (by rw [hk]; rfl)
      · simp only [lamn]
        cases hfi : H2.find? (fun q => r q.1 == some n) with
        | none => rfl
        | some q =>
          have h3 := List.find?_some hfi
          simp at h3
          exact absurd (by rw [h3]; rfl) (h1 q (List.mem_of_find?_eq_some hfi))
  have hren : Ren r lam2 (hget H2) lamn H3 := by
    refine ⟨fun k n o hk ho => ?_, fun k n hk hne => ?_⟩
    · rcases hH3 n with ⟨k', o', h1, h2, h3, _⟩ | ⟨h1, _⟩
      · have := hinj k k' n hk h2; subst this
        rw [ho] at h3; cases h3
        exact ⟨o', h1, rfl⟩
      · exact absurd hk (h1 k)
    · rcases hH3 n with ⟨k', o', h1, h2, h3, h4⟩ | ⟨h1, _⟩
      · have := hinj k k' n hk h2; subst this; exact h4
      · exact absurd hk (h1 k)
  -- a name that was ours, and still is
  have hold : ∀ n, p n → H3 n ≠ none → (∃ k, r k = some n ∧ lamn n = lam n ∧ H n ≠ none ∧ ((∃ c c0, hget H2 k = some (AObj.box c) ∧ H n = some (AObj.box c0)) ∨ (∃ m xs xs', hget H2 k = some (AObj.arr m xs') ∧ H n = some (AObj.arr m xs) ∧ xs.length = xs'.length))) ∨ (n ∉ gone ∧ H3 n = H n ∧ H n ≠ none ∧ lamn n = lam n) := fun n hp hne => by
    rcases hH3 n with ⟨k, o, h1, h2, h3, h4⟩ | ⟨h1, h2, h3⟩
    · obtain ⟨_, hc⟩ := hr k n h2
      rcases hc with ⟨i, a, o', e1, e2, e3⟩ | e1
      · obtain ⟨g1, g2, g3, g4, g5⟩ := hback i a o' n k e1 e2 e3
        exact .inl ⟨k, h2, h4.trans g1, g4, g5⟩
      · exact absurd hp (hf n (by omega) (by have := hlt1000 k (by rw [h1]; simp); omega))
    · right
      have hx : ∃ o, H3 n = some o := Option.ne_none_iff_exists'.1 hne
      obtain ⟨o, ho⟩ := hx
      have h4 := remF_ne (h2.symm.trans ho)
      exact ⟨h4.1, ho.trans h4.2.symm, by rw [h4.2]; simp, h3⟩
  have hunt : ∀ n b, H n ≠ none → n ∉ ps → lam n = some b → w'.heap[b]? = w.heap[b]? := fun n b hn hnp hb =>
    hblk b (h.hok.lt n b hn hb) fun m hm hmn hmb => hnp (h.hok.inj n m b hn hmn hb hmb ▸ hm)
  have hchg : Chg p w ok lam H w' okn lamn H3 := by
    refine ⟨fun b hb => hblk b (h.hok.oklt b hb) fun m hm hmn hmb => h.hok.dis m b hmn hmb hb, hon, fun n hp hne => ?_, fun n hp c' hc' => ?_, fun n hp m xs' hc' => ?_, fun n b cs Te fr m xs' hp hc' hb hh => ?_⟩
    · rcases hold n hp hne with ⟨_, _, e, _⟩ | ⟨_, _, _, e⟩ <;> exact e
    · rcases hold n hp (by rw [hc']; simp) with ⟨k, e1, _, _, ⟨c, c0, e2, e3⟩ | ⟨m, xs, xs', e2, e3, _⟩⟩ | ⟨_, e, _⟩
      · exact ⟨c0, e3⟩
      · obtain ⟨o0, g1, g2⟩ := hren.obj k n _ e1 hc'
        rw [e2] at g1; cases g1
        simp [renO] at g2
      · exact ⟨c', e.symm.trans hc'⟩
    · rcases hold n hp (by rw [hc']; simp) with ⟨k, e1, _, _, ⟨c, c0, e2, e3⟩ | ⟨m2, xs, xs2, e2, e3, e4⟩⟩ | ⟨_, e, _⟩
      · obtain ⟨o0, g1, g2⟩ := hren.obj k n _ e1 hc'
        rw [e2] at g1; cases g1
        simp [renO] at g2
      · obtain ⟨o0, g1, g2⟩ := hren.obj k n _ e1 hc'
        rw [e2] at g1; cases g1
        simp [renO] at g2
        obtain ⟨rfl, rfl⟩ := g2
        exact ⟨xs, e3, e4⟩
      · exact ⟨xs', e.symm.trans hc', rfl⟩
    · exact hfr.sized b cs Te fr hh
  -- who owns what, behind
  have hwho : ∀ n b, H3 n ≠ none → lamn n = some b → (∃ k, r k = some n ∧ hget H2 k ≠ none ∧ lam2 k = some b) ∨ (n ∉ gone ∧ H n ≠ none ∧ lam n = some b ∧ H3 n = H n) := fun n b hne hb => by
    rcases hH3 n with ⟨k, o, h1, h2, h3, h4⟩ | ⟨h1, h2, h3⟩
    · exact .inl ⟨k, h2, by rw [h1]; simp, h4 ▸ hb⟩
    · obtain ⟨o, ho⟩ := Option.ne_none_iff_exists'.1 hne
      have h4 := remF_ne (h2.symm.trans ho)
      exact .inr ⟨h4.1, by rw [h4.2]; simp, h3 ▸ hb, ho.trans h4.2.symm⟩
  have hmix : ∀ k n b, hget H2 k ≠ none → lam2 k = some b → n ∉ gone → H n ≠ none → lam n = some b → False := fun k n b h1 h2 h3 h4 h5 => by
    rcases hown2 k b h1 h2 with hc | hc
    · obtain ⟨m, hm, hmn, hmb⟩ := (hpas b).1 hc
      exact h3 (hgp n (h.hok.inj n m b h4 hmn h5 hmb ▸ hm))
    · have := h.hok.lt n b h4 h5; omega
  refine ⟨lamn, ⟨⟨⟨fun n n' b hn hn' hb hb' => ?_, fun n b hn hb => ?_, fun n b hn hb => ?_, honlt, fun n o ho => ?_⟩, fun n o ho => ?_, fun n hn => ?_, honU, fun n b hn hb => ?_, Nat.le_trans h.size hfr.size⟩, renV_rel hren hres, renV_good hrange res, ?_, fun x v hg hv => hchg.v hv hg⟩⟩
  · rcases hwho n b hn hb with ⟨k, e1, e2, e3⟩ | ⟨e1, e2, e3, _⟩
    · rcases hwho n' b hn' hb' with ⟨k', f1, f2, f3⟩ | ⟨f1, f2, f3, _⟩
      · have := hk2.inj k k' b e2 f2 e3 f3; subst this
        rw [e1] at f1; exact Option.some.inj f1
      · exact (hmix k n' b e2 e3 f1 f2 f3).elim
    · rcases hwho n' b hn' hb' with ⟨k', f1, f2, f3⟩ | ⟨f1, f2, f3, _⟩
      · exact (hmix k' n b f2 f3 e1 e2 e3).elim
      · exact h.hok.inj n n' b e2 f2 e3 f3
  · rcases hwho n b hn hb with ⟨k, e1, e2, e3⟩ | ⟨e1, e2, e3, _⟩
    · exact hk2.lt k b e2 e3
    · exact Nat.lt_of_lt_of_le (h.hok.lt n b e2 e3) hfr.size
  · rcases hwho n b hn hb with ⟨k, e1, e2, e3⟩ | ⟨e1, e2, e3, _⟩
    · exact hond2 k b e2 e3
    · exact hond n b e2 e1 e3
  · rcases hH3 n with ⟨k, o', h1, h2, h3, h4⟩ | ⟨h1, h2, h3⟩
    · rw [show H3 n = some o from ho] at h3
      cases h3
      exact renO_rel hren h2 (by rw [show H3 n = _ from ho]; simp) (hobj k o' h1)
    · have h4 := remF_ne (h2.symm.trans ho)
      exact ObjRel.chg hchg (hpn n (by rw [h4.2]; simp)) (by rw [show H3 n = _ from ho]; simp) (h.good n o h4.2) (fun b hb => hunt n b (by rw [h4.2]; simp) (fun hm => h4.1 (hgp n hm)) hb) (h.hok.obj n o h4.2)
  · rcases hH3 n with ⟨k, o', h1, h2, h3, h4⟩ | ⟨h1, h2, h3⟩
    · rw [show H3 n = some o from ho] at h3
      cases h3
      exact renO_good hrange o'
    · have h4 := remF_ne (h2.symm.trans ho)
      exact (h.good n o h4.2).mono fun _ h => .inl h
  · rcases hH3 n with ⟨k, o', h1, h2, h3, h4⟩ | ⟨h1, h2, h3⟩
    · exact hrange k n h2
    · obtain ⟨o, ho⟩ := Option.ne_none_iff_exists'.1 hn
      have h4 := remF_ne (h2.symm.trans ho)
      exact .inl (hpn n (by rw [h4.2]; simp))
  · rcases hwho n b hn hb with ⟨k, e1, e2, e3⟩ | ⟨e1, e2, e3, _⟩
    · rcases hown2 k b e2 e3 with hc | hc
      · obtain ⟨m, hm, hmn, hmb⟩ := (hpas b).1 hc
        exact h.ownb m b hmn hmb
      · exact .inr (Nat.le_trans h.size hc)
    · exact h.ownb n b e2 e3
  · exact ⟨hfr.os, hfr.tape, hfr.output, hfr.size, fun k hk hu => hblk k hk fun m hm hmn hmb => hu (h.ownb m k hmn hmb), hfr.sized⟩

theorem call_eff (h : Ctx okIn U w0 p w ok lam H) {tb : Nat} (hf : Fresh p tb) {f : FuncId} {args : List V} {vs : List Value} (hargs : Rel2 (VRel w ok lam H) args vs) (hv : callVC P H tb f args (eqK v0 u0)) :
    Calls P f ⟨vs⟩ w fun e w' => ∃ cv lam' ok', e = .returned cv ∧ Eff okIn U w0 p (pX p tb) w ok lam H v0 (updF u0 H) w' cv lam' ok' := by
  obtain ⟨ms, as, ps, bs, outs, res, H2, hg, hc1, hok, hc2, hown, hK⟩ := hv
  simp only [Bool.and_eq_true] at hc1 hc2
  obtain ⟨⟨hnd, hnm⟩, hpb⟩ := hc1
  obtain ⟨hfit, hsk⟩ := hc2
  have hpb' : ∀ n ∈ ps, n ∉ bs := fun n hn hb => by
    have := List.all_eq_true.1 hpb n hn
    simp at this
    exact this hb
  have har := gather_sound h.hok hargs hg
  have hokc : ∀ b, okB ok lam H bs b → b < w.heap.size := fun b hb => by
    rcases hb with hb | ⟨n, _, h1, h2⟩
    · exact h.hok.oklt b hb
    · exact h.hok.lt n b h1 h2
  have hk := h.hok.idx (ok' := okB ok lam H bs) hnd hokc (fun b hb => .inl hb) (fun k n b hk hn hb ho => by
    rcases ho with ho | ⟨m, hm, h1, h2⟩
    · exact h.hok.dis n b hn hb ho
    · exact hpb' n (List.mem_of_getElem? hk) (h.hok.inj n m b hn h1 hb h2 ▸ hm))
  have hren := ren_idx H lam ps
  have hcargs : ∀ (i : Nat) x v, (as.map (argV ps))[i]? = some x → vs[i]? = some v → VRel w (okB ok lam H bs) (fun k => (ps[k]?).bind lam) (hget (objs H (idx ps) 0 ps)) x v := fun i x v hx hvv => by
    rw [List.getElem?_map] at hx
    cases ha : as[i]? with
    | none => rw [ha] at hx; simp at hx
    | some a =>
      rw [ha] at hx
      simp at hx
      subst hx
      have hr := har.2 i a v ha hvv
      cases a with
      | dat x => exact .d hr
      | box n =>
        obtain ⟨⟨c, hc⟩, hnp, b, hb, rfl⟩ := hr
        simp only [argV]
        refine renC_rel hren (ok := okB ok lam H bs) (H := H) (lam := lam) (.ref ⟨_, rfl⟩ fun o ho => ⟨b, hb, rfl⟩)
      | own n off len =>
        obtain ⟨_, hnp, hvn⟩ := hr
        simp only [argV]
        cases hvn with | own g1 g2 =>
        exact renC_rel hren (ok := okB ok lam H bs) (H := H) (lam := lam) (.own g1 g2)
      | nils =>
        obtain rfl : v = _ := hr
        exact .nils
  have hpas : ∀ b, (∃ n, hget (objs H (idx ps) 0 ps) n ≠ none ∧ (fun k => (ps[k]?).bind lam) n = some b) → ∃ n ∈ ps, H n ≠ none ∧ lam n = some b := fun b => by
    rintro ⟨k, hk, hb⟩
    rw [hget_objs0] at hk
    have hb : (ps[k]?).bind lam = some b := hb
    cases hl : ps[k]? with
    | none => rw [hl] at hk; simp at hk
    | some n => rw [hl] at hk hb; exact ⟨n, List.mem_of_getElem? hl, by simpa using hk, by simpa using hb⟩
  refine (hok.2 w vs _ _ hk (by rw [List.length_map]; exact har.1) hcargs).mono ?_
  rintro e w' ⟨cv, lam2, ok2, rfl, hfr, hk2, hres, houts, hsub, hown2⟩
  have hok2U : ∀ b, ok2 b → okIn b ∨ U b ∨ w0.heap.size ≤ b := fun b hb => by
    rcases hsub b hb with hb | hb | hb
    · rcases hb with hb | ⟨n, _, h1, h2⟩
      · exact h.okb b hb
      · exact .inr (h.ownb n b h1 h2)
    · obtain ⟨m, hm, hmn, hmb⟩ := hpas b hb
      exact .inr (h.ownb m b hmn hmb)
    · exact .inr (.inr (Nat.le_trans h.size hb))
  have hown_ok : ∀ k b, hget H2 k ≠ none → lam2 k = some b → ¬ ok b := fun k b hkn hb ho => by
    rcases hown2 k b hkn hb with hc | hc
    · obtain ⟨m, hm, hmn, hmb⟩ := hpas b hc
      exact h.hok.dis m b hmn hmb ho
    · have := h.hok.oklt b ho; omega
  -- where what is let go is all that was lent
  have letgo : ∀ gone, (∀ n ∈ ps, n ∈ gone) → (∀ n ∈ bs, n ∈ gone) → v0 = renV (back tb as outs H2) res → u0 = updOf tb as outs gone H2 →
      ∃ cv' lam' ok', Ending.returned cv = .returned cv' ∧ Eff okIn U w0 p (pX p tb) w ok lam H v0 (updF u0 H) w' cv' lam' ok' := by
    rintro gone hg1 hg2 rfl rfl
    obtain ⟨lam', he⟩ := after_call (okn := fun b => ok b ∨ ok2 b) h hf har hfit hown hnm hsk hg1 hfr hk2
      (hres.mono (VGood.all _) (fun _ _ => rfl) (fun b hb => .inr hb) (fun _ _ _ => rfl) (fun n _ c' hc' => ⟨c', hc'⟩) (fun n _ m xs' hx => ⟨xs', hx, rfl⟩) (fun n b cs T fr m xs' _ _ _ hh => ⟨cs, T, fr, hh, rfl⟩))
      (fun n o ho => ObjRel.chg (p := fun _ => True) (Chg.of_old (fun _ _ => rfl) hk2.oklt (fun b hb => .inr hb) (fun _ _ => .inr rfl) (fun _ _ _ => rfl)) trivial (by rw [ho]; simp) (by cases o with | box c => exact fun v _ => VGood.all v | arr => trivial) (fun _ _ => rfl) (hk2.obj n o ho))
      houts hown2 (fun b hb => .inl hb) (fun b hb => hb.elim (fun hb => Nat.lt_of_lt_of_le (h.hok.oklt b hb) hfr.size) (hk2.oklt b)) (fun b hb => hb.elim (h.okb b) (hok2U b))
      (fun n b hn hng hb ho => by
        rcases ho with ho | ho
        · exact h.hok.dis n b hn hb ho
        · rcases hsub b ho with ho | ho | ho
          · rcases ho with ho | ⟨m, hm, h1, h2⟩
            · exact h.hok.dis n b hn hb ho
            · exact hng (hg2 n (h.hok.inj n m b hn h1 hb h2 ▸ hm))
          · obtain ⟨m, hm, hmn, hmb⟩ := hpas b ho
            exact hng (hg1 n (h.hok.inj n m b hn hmn hb hmb ▸ hm))
          · have := h.hok.lt n b hn hb; omega)
      (fun k b hkn hb ho => ho.elim (hown_ok k b hkn hb) (hk2.dis k b hkn hb))
    exact ⟨cv, lam', _, rfl, he⟩
  rcases hK with ⟨hbs | ⟨hfl, hfh⟩, rfl, rfl⟩ | ⟨rfl, rfl⟩
  · subst hbs
    exact letgo ps (fun _ h => h) (by simp) rfl rfl
  · obtain ⟨lam', he⟩ := after_call (okn := ok) h hf har hfit hown hnm hsk (fun _ h => h) hfr hk2 (hfl.rel hres) (fun n o ho => (hfh _ (hget_mem ho)).rel (hk2.obj n o ho)) houts hown2 (fun _ h => h)
      (fun b hb => Nat.lt_of_lt_of_le (h.hok.oklt b hb) hfr.size) h.okb (fun n b hn _ hb => h.hok.dis n b hn hb) hown_ok
    exact ⟨cv, lam', _, rfl, he⟩
  · exact letgo (bs ++ ps) (fun n hn => List.mem_append_right _ hn) (fun n hn => List.mem_append_left _ hn) rfl rfl

end
end Go.Rx
