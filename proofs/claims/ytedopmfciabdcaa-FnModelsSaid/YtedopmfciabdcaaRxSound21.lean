/-
  Part of the proof that the abstract evaluator is right about the model's run; each lemma names its conditions.
-/
import Derived.Test.YtedopmfciabdcaaRxSound20
namespace Go.Rx
open Go Go.RowKit

/-! ### what an operation looks at -/

section
variable {h h' : Heap}

theorem cD_loc {v : V} (hh : ∀ n ∈ refC v, h n = h' n) : cD h v = cD h' v := by
  cases v <;> first
    | rfl
    | (simp only [cD]; rw [hh _ (by simp [refC])])

theorem cDs_loc : ∀ {vs : List V}, (∀ v ∈ vs, ∀ n ∈ refC v, h n = h' n) → cDs h vs = cDs h' vs
  | [], _ => rfl
  | v :: vs, hh => by
    simp only [cDs]
    rw [cD_loc (hh v (by simp)), cDs_loc fun x hx => hh x (by simp [hx])]

theorem refO_loc {n : Nat} (hh : h n = h' n) : refO h n = refO h' n := by simp only [refO, hh]

/-- Names a value bears, and what its boxes bear. -/
def Reach (h : Heap) (l : List Nat) (n : Nat) : Prop := ∃ k ∈ l, n = k ∨ n ∈ refO h k

theorem toP_loc {v : V} (hh : ∀ n, Reach h (refC v) n → h n = h' n) : toP h v = toP h' v := by
  cases v with
  | ref n off =>
    have hn : h n = h' n := hh n ⟨n, by simp [refC], .inl rfl⟩
    simp only [toP]
    rw [← hn]
    cases hb : h n with
    | none => rfl
    | some o =>
      cases o with
      | arr => rfl
      | box cells =>
        simp only
        rw [cDs_loc (h := h) (h' := h')]
        intro v hv k hk
        exact hh k ⟨n, by simp [refC], .inr (by simp only [refO, hb, List.mem_cons, List.mem_flatMap]; exact .inr ⟨v, hv, hk⟩)⟩
  | _ => simp only [toP]; apply cD_loc; intro n hn; exact hh n ⟨n, hn, .inl rfl⟩

theorem toPs_loc : ∀ {vs : List V}, (∀ n, Reach h (vs.flatMap refC) n → h n = h' n) → toPs h vs = toPs h' vs
  | [], _ => rfl
  | v :: vs, hh => by
    simp only [toPs]
    rw [toP_loc fun n ⟨k, hk, hn⟩ => hh n ⟨k, by simp [hk], hn⟩, toPs_loc fun n ⟨k, hk, hn⟩ => hh n ⟨k, by rw [List.flatMap_cons]; exact List.mem_append.2 (.inr hk), hn⟩]

theorem toD_loc {v : V} (hh : ∀ n, Reach h (refV v) n → h n = h' n) : toD h v = toD h' v := by
  cases v with
  | agg vs =>
    simp only [toD]
    rw [cDs_loc (h := h) (h' := h')]
    intro x hx n hn
    exact hh n ⟨n, by simp only [refV, refA, List.mem_flatMap]; exact ⟨x, hx, hn⟩, .inl rfl⟩
  | clo f vs =>
    simp only [toD]
    rw [toPs_loc (h := h) (h' := h')]
    exact hh
  | tup vs => rfl
  | _ => simp only [toD]; apply cD_loc; intro n hn; exact hh n ⟨n, hn, .inl rfl⟩

/-- Read as plain data, nothing is followed. -/
theorem toD_loc1 {v : V} (hv : ∀ f vs, v ≠ .clo f vs) (hh : ∀ n ∈ refV v, h n = h' n) : toD h v = toD h' v := by
  cases v with
  | agg vs =>
    simp only [toD]
    rw [cDs_loc (h := h) (h' := h')]
    intro x hx n hn
    exact hh n (by simp only [refV, refA, List.mem_flatMap]; exact ⟨x, hx, hn⟩)
  | clo f vs => exact absurd rfl (hv f vs)
  | tup vs => rfl
  | _ => simp only [toD]; apply cD_loc; intro n hn; exact hh n hn

theorem gather_loc : ∀ {vs : List V} {ms : List Bool}, (∀ n, Reach h (vs.flatMap refV) n → h n = h' n) → gather h ms vs = gather h' ms vs
  | [], _, _ => rfl
  | v :: vs, ms, hh => by
    have h1 : ∀ n, Reach h (refV v) n → h n = h' n := fun n ⟨k, hk, hn⟩ => hh n ⟨k, by simp [hk], hn⟩
    have h2 : ∀ n, Reach h (vs.flatMap refV) n → h n = h' n := fun n ⟨k, hk, hn⟩ => hh n ⟨k, by rw [List.flatMap_cons]; exact List.mem_append.2 (.inr hk), hn⟩
    simp only [gather]
    rw [gather_loc h2]
    have h3 := toD_loc h1
    cases gather h' (ms.drop 1) vs with
    | none => rfl
    | some q =>
      obtain ⟨as, ps, bs⟩ := q
      simp only
      have hd : gatherD h v as ps bs = gatherD h' v as ps bs := by unfold gatherD; rw [h3]
      cases v with
      | ref n off =>
        have hn : h n = h' n := h1 n ⟨n, by simp [refV, refA, refC], .inl rfl⟩
        cases off with
        | zero => cases ms.headD false <;> simp only [gather1] <;> rw [refO_loc hn, ← hn]
        | succ k => cases ms.headD false <;> exact hd
      | own n off len =>
        have hn : h n = h' n := h1 n ⟨n, by simp [refV, refA, refC], .inl rfl⟩
        cases ms.headD false with
        | false => exact hd
        | true => simp only [gather1]; rw [hn]
      | nils => cases ms.headD false with
        | false => exact hd
        | true => rfl
      | _ => cases ms.headD false <;> exact hd

theorem gather1_ps {v : V} {as as1 : List Arg} {ps bs ps1 bs1 : List Nat} {m : Bool} (hg : gather1 h as1 ps1 bs1 m v = some (as, ps, bs)) :
    (∃ a, as = a :: as1 ∧ ∀ n off len, a = .own n off len → n ∈ ps) ∧ (∀ n ∈ ps1, n ∈ ps) ∧ ∀ n ∈ ps, n ∈ ps1 ∨ Reach h (refV v) n := by
  have hd : gatherD h v as1 ps1 bs1 = some (as, ps, bs) → (∃ a, as = a :: as1 ∧ ∀ n off len, a = .own n off len → n ∈ ps) ∧ (∀ n ∈ ps1, n ∈ ps) ∧ ∀ n ∈ ps, n ∈ ps1 ∨ Reach h (refV v) n := fun hg => by
    unfold gatherD at hg
    split at hg
    · simp at hg
      obtain ⟨rfl, rfl, _⟩ := hg
      exact ⟨⟨_, rfl, fun _ _ _ e => by cases e⟩, fun _ h => h, fun _ h => .inl h⟩
    · simp at hg
  cases v with
  | ref n0 off =>
    cases off with
    | zero =>
      have hg' : (match h n0 with | some (.box _) => some (Arg.box n0 :: as1, refO h n0 ++ ps1, bs1) | _ => none) = some (as, ps, bs) := by cases m <;> exact hg
      split at hg'
      · simp at hg'
        obtain ⟨rfl, rfl, _⟩ := hg'
        exact ⟨⟨_, rfl, fun _ _ _ e => by cases e⟩, fun _ h => List.mem_append_right _ h, fun n hn => (List.mem_append.1 hn).elim (fun hn => .inr ⟨n0, by simp [refV, refA, refC], .inr hn⟩) .inl⟩
      · simp at hg'
    | succ k => cases m <;> exact hd hg
  | own n0 off len =>
    cases m with
    | false => exact hd hg
    | true =>
      simp only [gather1] at hg
      split at hg
      · simp at hg
        obtain ⟨rfl, rfl, _⟩ := hg
        exact ⟨⟨_, rfl, fun _ _ _ e => by cases e; simp⟩, fun _ h => List.mem_cons_of_mem _ h, fun n hn => (List.mem_cons.1 hn).elim (fun e => .inr ⟨n0, by simp [refV, refA, refC], .inl e⟩) .inl⟩
      · simp at hg
  | nils =>
    cases m with
    | false => exact hd hg
    | true =>
      simp [gather1] at hg
      obtain ⟨rfl, rfl, _⟩ := hg
      exact ⟨⟨_, rfl, fun _ _ _ e => by cases e⟩, fun _ h => h, fun _ h => .inl h⟩
  | _ => cases m <;> exact hd hg

theorem gather_ps : ∀ {vs : List V} {ms : List Bool} {as : List Arg} {ps bs : List Nat}, gather h ms vs = some (as, ps, bs) → (∀ n ∈ ps, Reach h (vs.flatMap refV) n) ∧ ∀ n off len, Arg.own n off len ∈ as → n ∈ ps
  | [], ms, as, ps, bs, hg => by simp [gather] at hg; obtain ⟨rfl, rfl, _⟩ := hg; exact ⟨by simp, by simp⟩
  | v :: vs, ms, as, ps, bs, hg => by
    simp only [gather] at hg
    cases hr : gather h (ms.drop 1) vs with
    | none => rw [hr] at hg; cases hg
    | some q =>
      obtain ⟨as1, ps1, bs1⟩ := q
      obtain ⟨ih, ih2⟩ := gather_ps hr
      rw [hr] at hg
      obtain ⟨⟨a, rfl, g1⟩, g2, g3⟩ := gather1_ps hg
      refine ⟨fun n hn => ?_, fun n off len hm => ?_⟩
      · rcases g3 n hn with hn | ⟨k, hk, h3⟩
        · obtain ⟨k, hk, h3⟩ := ih n hn
          exact ⟨k, by rw [List.flatMap_cons]; exact List.mem_append.2 (.inr hk), h3⟩
        · exact ⟨k, by rw [List.flatMap_cons]; exact List.mem_append.2 (.inl hk), h3⟩
      · rcases List.mem_cons.1 hm with e | hm
        · exact g1 n off len e.symm
        · exact g2 n (ih2 n off len hm)

theorem ownFit_loc {H' : List (Nat × AObj)} : ∀ {as : List Arg} {os : List V}, (∀ n off len, Arg.own n off len ∈ as → h n = h' n) → ownFit h H' as os → ownFit h' H' as os
  | [], _, _, hf => by simp [ownFit]
  | a :: as, [], _, hf => by cases a <;> simp [ownFit]
  | a :: as, o :: os, hh, hf => by
    have ih : ownFit h H' as os → ownFit h' H' as os := ownFit_loc fun n off len hm => hh n off len (List.mem_cons_of_mem _ hm)
    cases a with
    | own n off len =>
      cases o with
      | own k off' len' => exact ⟨hh n off len List.mem_cons_self ▸ hf.1, ih hf.2⟩
      | _ => exact ih hf
    | _ => exact ih hf

theorem objs_loc (r : Nat → Option Nat) : ∀ {l : List Nat} {k : Nat}, (∀ n ∈ l, h n = h' n) → objs h r k l = objs h' r k l
  | [], _, _ => rfl
  | n :: l, k, hh => by
    simp only [objs]
    rw [hh n (by simp), objs_loc r fun m hm => hh m (by simp [hm])]

theorem callVC_loc {P : Program} {tb : Nat} {f : FuncId} {args : List V} {K : OK} (hh : ∀ n, Reach h (args.flatMap refV) n → h n = h' n) (hv : callVC P h tb f args K) : callVC P h' tb f args K := by
  obtain ⟨ms, as, ps, bs, outs, res, H2, hg, h1, h2, h3, h4, h5⟩ := hv
  obtain ⟨g1, g2⟩ := gather_ps hg
  refine ⟨ms, as, ps, bs, outs, res, H2, by rw [← gather_loc hh]; exact hg, h1, ?_, h3, ownFit_loc (fun n off len hm => hh n (g1 n (g2 n off len hm))) h4, h5⟩
  rw [← objs_loc _ fun n hn => hh n (g1 n hn)]
  exact h2

theorem reach_of {l : List Nat} {n : Nat} (hn : Reach h l n) : n ∈ l.flatMap fun k => k :: refO h k := by
  obtain ⟨k, hk, hn⟩ := hn
  exact List.mem_flatMap.2 ⟨k, hk, by rcases hn with rfl | hn <;> simp [*]⟩

variable {T : Tys} {P : Program} {K : OK} {tb t : Nat}

theorem loadVC_loc {x : V} (hh : ∀ n ∈ refV x, h n = h' n) (hv : loadVC T h t x K) : loadVC T h' t x K := by
  cases x <;> first
    | exact hv
    | (rename_i y; cases y <;> exact hv)
    | (simp only [loadVC] at hv ⊢; rw [← hh _ (by simp [refV, refA, refC])]; exact hv)

theorem storeTo_loc {ti : TI} {vs : List V} {x : V} (hh : ∀ n ∈ refV x, h n = h' n) (h2 : ∀ v ∈ vs, ∀ n ∈ refC v, h n = h' n) (hv : storeTo h tb ti vs x K) : storeTo h' tb ti vs x K := by
  cases x <;> first
    | exact hv
    | (simp only [storeTo] at hv ⊢; rw [← hh _ (by simp [refV, refA, refC])]; first | exact hv | (rw [← cDs_loc h2]; exact hv))

theorem cells_refs {x : V} {vs : List V} (hc : x.cells = some vs) {v : V} (hv : v ∈ vs) {n : Nat} (hn : n ∈ refC v) : n ∈ refV x := by
  cases x with
  | agg cs => simp [V.cells] at hc; subst hc; simp only [refV, refA, List.mem_flatMap]; exact ⟨v, hv, hn⟩
  | d y =>
    exfalso
    cases y <;> simp [V.cells] at hc <;> first
      | (subst hc; simp at hv; subst hv; simp [refC] at hn; done)
      | (subst hc; simp at hv; obtain ⟨z, _, rfl⟩ := hv; simp [refC] at hn)
  | tup => simp [V.cells] at hc
  | dead => simp [V.cells] at hc
  | clo f cs => simp [V.cells] at hc; subst hc; simp at hv; subst hv; simp [refC] at hn
  | _ => simp [V.cells] at hc; subst hc; simp at hv; subst hv; exact hn

theorem litParts_loc : ∀ {k : Nat} {l : List (Nat × V)}, (∀ q ∈ l, ∀ n ∈ refV q.2, h n = h' n) → litParts h k l = litParts h' k l
  | _, [], _ => rfl
  | k, (i, v) :: l, hh => by
    simp only [litParts]
    rw [litParts_loc fun q hq => hh q (by simp [hq])]
    have : litPart h (i == k) v.cells = litPart h' (i == k) v.cells := by
      cases hb : i == k <;> cases hc : v.cells <;> simp only [litPart]
      exact cDs_loc fun x hx n hn => hh (i, v) (by simp) n (cells_refs hc hx hn)
    rw [this]

theorem sliceVC_loc {x : V} {lo hi mx : Option V} (hh : ∀ n ∈ refV x, h n = h' n) (hv : sliceVC T h t x lo hi mx K) : sliceVC T h' t x lo hi mx K := by
  cases x <;> first
    | exact hv
    | (cases mx with
       | none => simp only [sliceVC] at hv ⊢; rw [← hh _ (by simp [refV, refA, refC])]; exact hv
       | some _ => exact hv)
    | (rename_i y; cases y <;> cases mx <;> exact hv)
    | (cases mx <;> exact hv)

theorem indexVC_loc {e : Option Nat} {x i : V} (hh : ∀ n ∈ refV x, h n = h' n) (hv : indexVC T h e x i K) : indexVC T h' e x i K := by
  cases x <;> first
    | exact hv
    | (rename_i y; cases y <;> exact hv)
    | (simp only [indexVC] at hv ⊢; rw [← hh _ (by simp [refV, refA, refC])]; exact hv)

theorem nilVC_loc {x : V} (hh : ∀ n ∈ refV x, h n = h' n) (hv : nilVC h x K) : nilVC h' x K := by
  cases x <;> first
    | exact hv
    | (rename_i y; cases y <;> exact hv)
    | (simp only [nilVC] at hv ⊢; rw [← hh _ (by simp [refV, refA, refC])]; exact hv)

theorem faVC_loc {off : Nat} {x : V} (hh : ∀ n ∈ refV x, h n = h' n) (hv : faVC h off x K) : faVC h' off x K := by
  cases x <;> first
    | exact hv
    | (rename_i y; cases y <;> exact hv)
    | (simp only [faVC] at hv ⊢; rw [← hh _ (by simp [refV, refA, refC])]; exact hv)

theorem slOf_loc {x : V} (hh : ∀ n ∈ refV x, h n = h' n) : slOf (toD h x) = slOf (toD h' x) := by
  cases x with
  | clo f vs =>
    simp only [toD]
    cases toPs h vs <;> cases toPs h' vs <;> rfl
  | _ => rw [toD_loc1 (by simp) hh]

theorem convVC_loc {ck : CK} {x : V} (hh : ∀ n ∈ refV x, h n = h' n) (hv : convVC h tb ck x K) : convVC h' tb ck x K := by
  cases ck with
  | toStr => simp only [convVC] at hv ⊢; rw [← slOf_loc hh]; exact hv
  | _ => cases x <;> first | exact hv | (rename_i y; cases y <;> exact hv)

theorem lenVC_loc {ot : Option TI} {x : V} (hh : ∀ n ∈ refV x, h n = h' n) (hv : lenVC h ot x K) : lenVC h' ot x K := by
  cases x <;> first
    | exact hv
    | (rename_i y; cases y <;> exact hv)
    | (simp only [lenVC] at hv ⊢; rw [← hh _ (by simp [refV, refA, refC])]; exact hv)

theorem appTo_loc {e : TI} {x : V} {ys : List (List D)} (hh : ∀ n ∈ refV x, h n = h' n) (hv : appTo h tb e x ys K) : appTo h' tb e x ys K := by
  cases x with
  | own n off len =>
    cases off with
    | zero => simp only [appTo] at hv ⊢; rw [← hh _ (by simp [refV, refA, refC])]; exact hv
    | succ k => exact hv
  | _ => exact hv

theorem appendVC_loc {ty ty2 : Option Nat} {s x : V} (hs : ∀ n ∈ refV s, h n = h' n) (hh : ∀ n ∈ refV x, h n = h' n) (hv : appendVC T h tb ty ty2 s x K) : appendVC T h' tb ty ty2 s x K := by
  unfold appendVC at hv ⊢
  cases hi : isIntT T ty2 with
  | true => rw [hi] at hv; exact hv
  | false =>
    rw [hi] at hv
    obtain ⟨h1, hv⟩ := (hv : Req _ _)
    refine (show Req _ _ from ⟨h1, ?_⟩)
    obtain ⟨e, he, hv⟩ := onSome_inv hv
    obtain ⟨i, hi, hv⟩ := onSome_inv hv
    obtain ⟨ys, hys, hv⟩ := onSome_inv hv
    simp only [he, onSome, hi, ← slOf_loc hh, hys]
    exact appTo_loc hs hv

theorem clearVC_loc {ti : TI} {x : V} (hh : ∀ n ∈ refV x, h n = h' n) (hv : clearVC h ti x K) : clearVC h' ti x K := by
  cases x with
  | own n off len => simp only [clearVC] at hv ⊢; rw [← hh n (by simp [refV, refA, refC])]; exact hv
  | _ => exact hv

theorem builtinVC_loc {b : Builtin} {ts : List Nat} {args : List V} (hh : ∀ n ∈ args.flatMap refV, h n = h' n) (hv : builtinVC T h tb b ts args K) : builtinVC T h' tb b ts args K := by
  match args, hh, hv with
  | [x], hh, hv =>
    cases b <;> first
      | exact hv
      | exact lenVC_loc (fun n hn => hh n (by simpa using hn)) hv
      | (obtain ⟨ti, hti, hv⟩ := onSome_inv hv
         simp only [builtinVC, hti, onSome]
         exact clearVC_loc (fun n hn => hh n (by simpa using hn)) hv)
  | [x, y], hh, hv =>
    cases b <;> first
      | exact hv
      | exact appendVC_loc (fun n hn => hh n (by simp [hn])) (fun n hn => hh n (by simp [hn])) hv
  | [], _, hv => exact hv
  | _ :: _ :: _ :: _, _, hv => exact hv

theorem calleeVC_loc {args : List V} {x : V} (hh : ∀ n, Reach h ((x :: args).flatMap refV) n → h n = h' n) (hv : calleeVC P h tb args x K) : calleeVC P h' tb args x K := by
  cases x with
  | d y =>
    cases y with
    | clo f cs =>
      refine callVC_loc (fun n ⟨k, hk, hn⟩ => hh n ⟨k, ?_, hn⟩) hv
      rw [List.flatMap_append] at hk
      rcases List.mem_append.1 hk with hk | hk
      · rw [List.flatMap_cons]; exact List.mem_append.2 (.inr hk)
      · obtain ⟨z, hz, hk⟩ := List.mem_flatMap.1 hk
        obtain ⟨u, _, rfl⟩ := List.mem_map.1 hz
        simp [refV, refA, refC] at hk
    | _ => exact hv
  | clo f vs =>
    refine ⟨hv.1, callVC_loc (fun n ⟨k, hk, hn⟩ => hh n ⟨k, ?_, hn⟩) hv.2⟩
    rw [List.flatMap_append] at hk
    rw [List.flatMap_cons]
    rcases List.mem_append.1 hk with hk | hk
    · exact List.mem_append.2 (.inr hk)
    · refine List.mem_append.2 (.inl ?_)
      obtain ⟨z, hz, hk⟩ := List.mem_flatMap.1 hk
      have hc : z.isC = true := List.all_eq_true.1 hv.1 z hz
      refine List.mem_flatMap.2 ⟨z, hz, ?_⟩
      cases z <;> first | exact hk | (simp [V.isC] at hc)
  | _ => exact hv

theorem opVC_loc {i : Nat} {o : Oper} {ρ ρ' : Operand → V} (hx : ∀ x ∈ o.op.operands, ρ x = ρ' x) (hh : ∀ n ∈ rdN o ρ h, h n = h' n) (hv : opVC T P i o ρ h K) : opVC T P i o ρ' h' K := by
  obtain ⟨dst, op, ty, pos, after, guard⟩ := o
  cases op with
  | move x => simp only [opVC] at hv ⊢; rw [← hx x (by simp [Op.operands])]; exact hv
  | assign x => simp only [opVC] at hv ⊢; rw [← hx x (by simp [Op.operands])]; exact hv
  | pick c x y => simp only [opVC] at hv ⊢; rw [← hx x (by simp [Op.operands]), ← hx y (by simp [Op.operands]), ← hx c (by simp [Op.operands])]; exact hv
  | alloc e => exact hv
  | box e x => simp only [opVC] at hv ⊢; rw [← hx x (by simp [Op.operands])]; exact hv
  | build t parts =>
    have : parts.toList.map (fun q => (q.1, ρ' q.2)) = parts.toList.map fun q => (q.1, ρ q.2) := List.map_congr_left fun q hq => by
      rw [hx q.2 (by simp [Op.operands]; exact ⟨q.1, by simpa using hq⟩)]
    simp only [opVC] at hv ⊢; rw [this]; exact hv
  | buildSlice t len parts =>
    have : parts.toList.map (fun q => (q.1, ρ' q.2)) = parts.toList.map fun q => (q.1, ρ q.2) := List.map_congr_left fun q hq => by
      rw [hx q.2 (by simp [Op.operands]; exact ⟨q.1, by simpa using hq⟩)]
    simp only [opVC] at hv ⊢
    rw [this, ← litParts_loc (h := h) (h' := h')]
    · exact hv
    · intro q hq n hn
      obtain ⟨z, hz, rfl⟩ := List.mem_map.1 hq
      exact hh n (List.mem_flatMap.2 ⟨z, hz, hn⟩)
  | load t x => simp only [opVC] at hv ⊢; rw [← hx x (by simp [Op.operands])]; exact loadVC_loc hh hv
  | store t x y =>
    simp only [opVC] at hv ⊢
    rw [← hx x (by simp [Op.operands]), ← hx y (by simp [Op.operands])]
    obtain ⟨ti, h1, hv⟩ := onSome_inv hv
    obtain ⟨vs, h2, h3, h4, h5, hv⟩ := onSome_inv hv
    simp only [storeVC, h1, h2, onSome]
    exact ⟨h3, h4, h5, storeTo_loc (fun n hn => hh n (List.mem_append.2 (.inl hn))) (fun v hv n hn => hh n (List.mem_append.2 (.inr (cells_refs h2 hv hn)))) hv⟩
  | nilCheck x => simp only [opVC] at hv ⊢; rw [← hx x (by simp [Op.operands])]; exact nilVC_loc hh hv
  | binOp op t x y u => simp only [opVC] at hv ⊢; rw [← hx x (by simp [Op.operands]), ← hx y (by simp [Op.operands])]; exact hv
  | unOp op t x => simp only [opVC] at hv ⊢; rw [← hx x (by simp [Op.operands])]; exact hv
  | convert s d x => simp only [opVC] at hv ⊢; rw [← hx x (by simp [Op.operands])]; exact convVC_loc hh hv
  | makeFunc fn first captured =>
    cases fn with
    | func f =>
      have : captured.toList.map ρ' = captured.toList.map ρ := List.map_congr_left fun q hq => by
        rw [hx q (by simp only [Op.operands]; exact Array.mem_append.2 (.inr (by simpa using hq)))]
      simp only [opVC] at hv ⊢; rw [this]; exact hv
    | _ => exact hv.elim
  | makeSlice t l c => simp only [opVC] at hv ⊢; rw [← hx l (by simp [Op.operands]), ← hx c (by simp [Op.operands])]; exact hv
  | slice t x lo hi mx =>
    have e1 : lo.map ρ' = lo.map ρ := by cases lo with | none => rfl | some z => simp only [Option.map_some]; rw [hx z (by simp [Op.operands])]
    have e2 : hi.map ρ' = hi.map ρ := by cases hi with | none => rfl | some z => simp only [Option.map_some]; rw [hx z (by simp [Op.operands])]
    have e3 : mx.map ρ' = mx.map ρ := by cases mx with | none => rfl | some z => simp only [Option.map_some]; rw [hx z (by simp [Op.operands])]
    simp only [opVC] at hv ⊢; rw [e1, e2, e3, ← hx x (by simp [Op.operands])]; exact sliceVC_loc hh hv
  | fieldAddr t x f =>
    simp only [opVC] at hv ⊢
    obtain ⟨p, h1, h2, hv⟩ := onSome_inv hv
    rw [← hx x (by simp [Op.operands]), h1]
    exact ⟨h2, faVC_loc hh hv⟩
  | field t x f => simp only [opVC] at hv ⊢; rw [← hx x (by simp [Op.operands])]; exact hv
  | indexAddr t x y => simp only [opVC] at hv ⊢; rw [← hx x (by simp [Op.operands]), ← hx y (by simp [Op.operands])]; exact indexVC_loc hh hv
  | index t x y => simp only [opVC] at hv ⊢; rw [← hx x (by simp [Op.operands]), ← hx y (by simp [Op.operands])]; exact hv
  | extract x n => simp only [opVC] at hv ⊢; rw [← hx x (by simp [Op.operands])]; exact hv
  | call c =>
    obtain ⟨callee, args, ts⟩ := c
    have hm : args.toList.map ρ' = args.toList.map ρ := List.map_congr_left fun q hq => by
      rw [hx q (by simp only [Op.operands, Call.operands]; exact Array.mem_append.2 (.inr (by simpa using hq)))]
    have hsub : ∀ n, Reach h ((args.toList.map ρ).flatMap refV) n → h n = h' n := fun n hn => hh n (by
      have := reach_of hn
      simp only [rdN]
      obtain ⟨k, hk, hn⟩ := List.mem_flatMap.1 this
      refine List.mem_flatMap.2 ⟨k, ?_, hn⟩
      obtain ⟨v, hv, hk⟩ := List.mem_flatMap.1 hk
      obtain ⟨z, hz, rfl⟩ := List.mem_map.1 hv
      exact List.mem_flatMap.2 ⟨z, by simp only [Call.operands]; rw [Array.mem_toList_iff]; exact Array.mem_append.2 (.inr (Array.mem_toList_iff.1 hz)), hk⟩)
    cases callee with
    | builtin b => simp only [opVC] at hv ⊢; rw [hm]; exact builtinVC_loc (fun n hn => hsub n ⟨n, hn, .inl rfl⟩) hv
    | value x =>
      have hxx : ρ x = ρ' x := hx x (by simp [Op.operands, Call.operands])
      have tmp : calleeVC P h (1000 * (i + 1)) (args.toList.map ρ) (ρ x) K → calleeVC P h' (1000 * (i + 1)) (args.toList.map ρ') (ρ' x) K := fun hv => by
        rw [hm, ← hxx]
        refine calleeVC_loc (fun n hn => ?_) hv
        have := reach_of hn
        refine hh n ?_
        simp only [rdN]
        obtain ⟨k, hk, hn⟩ := List.mem_flatMap.1 this
        refine List.mem_flatMap.2 ⟨k, ?_, hn⟩
        rw [List.flatMap_cons] at hk
        rcases List.mem_append.1 hk with hk | hk
        · exact List.mem_flatMap.2 ⟨x, by simp [Call.operands], hk⟩
        · obtain ⟨v, hv, hk⟩ := List.mem_flatMap.1 hk
          obtain ⟨z, hz, rfl⟩ := List.mem_map.1 hv
          exact List.mem_flatMap.2 ⟨z, by simp only [Call.operands]; rw [Array.mem_toList_iff]; exact Array.mem_append.2 (.inr (Array.mem_toList_iff.1 hz)), hk⟩
      cases x with
      | func f => simp only [opVC] at hv ⊢; rw [hm]; exact callVC_loc hsub hv
      | tmp t => exact tmp hv
      | const v => exact tmp hv
      | global g => exact tmp hv
    | invoke r m => exact hv.elim
  | _ => exact hv.elim

end
end Go.Rx
