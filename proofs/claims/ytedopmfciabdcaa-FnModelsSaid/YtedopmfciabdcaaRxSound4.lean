/-
  Part of the proof that the abstract evaluator is right about the model's run; each lemma names its conditions.
-/
import Derived.Test.YtedopmfciabdcaaRxSound3
namespace Go.Rx
open Go Go.RowKit

section
variable {P : Program} {T : Tys} {w : World} {ok : Nat → Prop} {lam : Nat → Option Nat} {H : Heap} {q : Nat → Prop} {v0 : V} {u0 : Upd}

def ORel (w : World) (ok : Nat → Prop) (lam : Nat → Option Nat) (H : Heap) : Option V → Option Value → Prop
  | none, none => True
  | some x, some xv => VRel w ok lam H x xv
  | _, _ => False

theorem isStr_und (hT : TyOK P T) {t : Nat} (hs : isStr (T t) = true) : P.underlying t = some .string := by
  unfold isStr at hs
  split at hs
  · rename_i a b z hTt
    obtain ⟨info, d, zz, ht⟩ := hT t _ hTt
    have := kindOK_str ht.kind
    subst this
    exact ht.und
  · simp at hs

theorem bound_run {o : Option V} {ov : Option Value} {d n : Int} (hr : ORel w ok lam H o ov) (h : bound o d = some n) : (ov = none ∧ n = d) ∨ ∃ k, ov = some (.int k n) := by
  rcases bound_sound (o := o) (ov := ov) (by cases o <;> cases ov <;> exact hr) h with ⟨_, h1, h2⟩ | h
  · exact .inl ⟨h1, h2⟩
  · exact .inr h

theorem slice_sound (hT : TyOK P T) {t : Nat} {x : V} {xv : Value} {lo hi mx : Option V} {lov hiv mxv : Option Value}
    (hx : VRel w ok lam H x xv) (hlo : ORel w ok lam H lo lov) (hhi : ORel w ok lam H hi hiv) (hmx : ORel w ok lam H mx mxv)
    (h : sliceVC T H t x lo hi mx (eqK v0 u0)) : Quiet P w ok lam H q v0 u0 (VGood q x) (Instr.sliceAt t xv lov hiv mxv) := by
  cases mx with
  | some y => cases x with
    | d z => cases z <;> simp [sliceVC] at h
    | _ => simp [sliceVC] at h
  | none =>
  obtain rfl : mxv = none := by cases mxv <;> simp_all [ORel]
  cases x with
  | ref => simp [sliceVC] at h
  | el => simp [sliceVC] at h
  | nils =>
    simp only [sliceVC] at h
    cases he : elemT T t with
    | none => simp [he, onSome] at h
    | some e =>
      simp only [he, onSome] at h
      obtain ⟨hkn, h⟩ := h
      cases hl : bound lo 0 with
      | none => simp [hl] at h
      | some l =>
        cases hh : bound hi 0 with
        | none => simp [hl, hh] at h
        | some hiN =>
          simp only [hl, hh] at h
          obtain ⟨rfl, rfl, rfl, rfl⟩ := h
          obtain ⟨it, hTt, hkt⟩ := elemT_some he
          obtain ⟨info, d, z, ht⟩ := hT t it hTt
          obtain rfl : d = .slice e := kindOK_slice (hkt ▸ ht.kind)
          unfold known at hkn
          cases hTe : T e with
          | none => simp [hTe] at hkn
          | some ie =>
            obtain ⟨infoe, de, ze, hte⟩ := hT e ie hTe
            cases hx
            have hb := sliceBounds_run (P := P) (w := w) (isS := true) (len := 0) (cap := 0) (bound_run hlo hl) (bound_run hhi hh) (Int.le_refl _) (Int.le_refl _) (Int.le_refl _)
            refine ⟨.slice none 0 0, ?_, rfl, .nils, fun _ => .nils⟩
            simp only [Instr.sliceAt, Sem.run_bind, ht.run_und, Result.andThen_ok, Instr.slice, hb, hte.run_sizeOf, Sem.run_pure]
            rfl
  | agg => simp [sliceVC] at h
  | tup => simp [sliceVC] at h
  | clo => simp [sliceVC] at h
  | dead => simp [sliceVC] at h
  | d y => cases y with
   | int => simp [sliceVC] at h
   | bool => simp [sliceVC] at h
   | agg => simp [sliceVC] at h
   | ptr => simp [sliceVC] at h
   | clo => simp [sliceVC] at h
   | nilp => simp [sliceVC] at h
   | und => simp [sliceVC] at h
   | str s =>
    simp only [sliceVC] at h
    obtain ⟨hs, h⟩ := h
    have hu := isStr_und hT hs
    cases hl : bound lo 0 with
    | none => simp [hl, onSome] at h
    | some l =>
      cases hh : bound hi s.length with
      | none => simp [hl, hh, onSome] at h
      | some hiN =>
        simp only [hl, hh, onSome] at h
        obtain ⟨h0, h1, h2, rfl, rfl⟩ := h
        cases hx.inv_d with | str _ hm =>
        have hb := sliceBounds_run (P := P) (w := w) (isS := false) (len := s.length) (cap := s.length) (bound_run hlo hl) (bound_run hhi hh) h0 h1 h2
        refine ⟨.string ⟨⟨(s.take hiN.toNat).drop l.toNat⟩⟩, ?_, rfl, .d (.str _ (by simp; omega)), fun _ => .d _⟩
        simp only [Instr.sliceAt, Sem.run_bind, run_underlying hu, Result.andThen_ok, Instr.slice, size_mk, hb, Option.isSome_none, Bool.false_eq_true, if_false, Sem.run_pure, extract_mk]
   | sl xs =>
    simp only [sliceVC] at h
    cases he : elemT T t with
    | none => simp [he, onSome] at h
    | some e =>
      simp only [he, onSome] at h
      obtain ⟨hkn, hsz, h⟩ := h
      cases hl : bound lo 0 with
      | none => simp [hl] at h
      | some l =>
        cases hh : bound hi xs.length with
        | none => simp [hl, hh] at h
        | some hiN =>
          simp only [hl, hh] at h
          obtain ⟨h0, h1, h2, rfl, rfl⟩ := h
          obtain ⟨it, hTt, hkt⟩ := elemT_some he
          obtain ⟨info, d, z, ht⟩ := hT t it hTt
          obtain rfl : d = .slice e := kindOK_slice (hkt ▸ ht.kind)
          unfold known at hkn
          cases hTe : T e with
          | none => simp [hTe] at hkn
          | some ie =>
            obtain ⟨infoe, de, ze, hte⟩ := hT e ie hTe
            have hse : sizeOfT T e = ie.size := by simp [sizeOfT, hTe]
            have run : ∀ A cap, xs.length ≤ cap → (Instr.sliceAt t (.slice A xs.length cap) lov hiv none).run P w =
                .ok (.slice (if cap = l.toNat then A else A.map (·.add (l.toNat * ie.size))) (hiN.toNat - l.toNat) (cap - l.toNat)) w := by
              intro A cap hcap
              have hb := sliceBounds_run (P := P) (w := w) (isS := true) (len := xs.length) (cap := cap) (bound_run hlo hl) (bound_run hhi hh) h0 h1 (by omega)
              simp only [Instr.sliceAt, Sem.run_bind, ht.run_und, Result.andThen_ok, Instr.slice, hb, hte.run_sizeOf, Sem.run_pure]
            cases hx.inv_d with
            | sl0 A c =>
              refine ⟨_, run A c (by simp), rfl, ?_, fun _ => .d _⟩
              have : hiN.toNat - l.toNat = 0 := by simp at h2; omega
              rw [this]
              simp only [List.take_nil, List.drop_nil]
              exact .d (.sl0 _ _)
            | sl _ m b o cap f hc hm hb hlm hv hd =>
              refine ⟨_, run _ cap hc, rfl, ?_, fun _ => .d _⟩
              have hlen : ((xs.take hiN.toNat).drop l.toNat).length = hiN.toNat - l.toNat := by simp; omega
              by_cases hz : hiN.toNat - l.toNat = 0
              · rw [hz]
                have : (xs.take hiN.toNat).drop l.toNat = [] := List.eq_nil_of_length_eq_zero (by omega)
                rw [this]
                exact .d (.sl0 _ _)
              · have hne : ¬ cap = l.toNat := by omega
                rw [if_neg hne]
                have hmem : ∃ c, c ∈ xs := by cases xs with | nil => simp at h2; omega | cons c l => exact ⟨c, List.mem_cons_self⟩
                obtain ⟨c, hcm⟩ := hmem
                have hme : ie.size = m := by rw [← hse, ← hsz c hcm]; exact hlm c hcm
                rw [← hlen, hme]
                simp only [Option.map_some, Addr.add_mid]
                have hget : ∀ (i : Nat) e, ((xs.take hiN.toNat).drop l.toNat)[i]? = some e → xs[l.toNat + i]? = some e := by
                  intro i e he
                  rw [List.getElem?_drop, List.getElem?_take] at he
                  split at he
                  · exact he
                  · simp at he
                refine .d (.sl _ m b (o + l.toNat * m) (cap - l.toNat) (fun k => f (l.toNat * m + k)) (by omega) (by omega) hb (fun e he => hlm e (List.mem_of_mem_take (List.mem_of_mem_drop he))) ?_ ?_)
                · intro i e j d hi hj
                  have := hv (l.toNat + i) e j d (hget i e hi) hj
                  rw [Nat.add_mul] at this
                  rw [Nat.add_assoc, ← Nat.add_assoc (l.toNat * m)]
                  exact this
                · intro i e j d hi hj
                  have := hd (l.toNat + i) e j d (hget i e hi) hj
                  rw [Nat.add_mul, Nat.add_assoc] at this
                  exact this
  | own n off len =>
    simp only [sliceVC] at h
    cases he : elemT T t with
    | none => simp [he, onSome] at h
    | some e =>
      simp only [he, onSome] at h
      cases hn : H n with
      | none => simp [hn, onArr] at h
      | some ob =>
        cases ob with
        | box c => simp [hn, onArr] at h
        | arr m xs =>
          simp only [hn, onArr] at h
          obtain ⟨hkn, hsz, h⟩ := h
          cases hl : bound lo 0 with
          | none => simp [hl] at h
          | some l =>
            cases hh : bound hi len with
            | none => simp [hl, hh] at h
            | some hiN =>
              simp only [hl, hh] at h
              obtain ⟨h0, h1, h2, rfl, rfl⟩ := h
              obtain ⟨it, hTt, hkt⟩ := elemT_some he
              obtain ⟨info, d, z, ht⟩ := hT t it hTt
              obtain rfl : d = .slice e := kindOK_slice (hkt ▸ ht.kind)
              unfold known at hkn
              cases hTe : T e with
              | none => simp [hTe] at hkn
              | some ie =>
                obtain ⟨infoe, de, ze, hte⟩ := hT e ie hTe
                have hse : sizeOfT T e = ie.size := by simp [sizeOfT, hTe]
                have run : ∀ A cap, len ≤ cap → (Instr.sliceAt t (.slice A len cap) lov hiv none).run P w =
                    .ok (.slice (if cap = l.toNat then A else A.map (·.add (l.toNat * ie.size))) (hiN.toNat - l.toNat) (cap - l.toNat)) w := by
                  intro A cap hcap
                  have hb := sliceBounds_run (P := P) (w := w) (isS := true) (len := len) (cap := cap) (bound_run hlo hl) (bound_run hhi hh) h0 h1 (by omega)
                  simp only [Instr.sliceAt, Sem.run_bind, ht.run_und, Result.andThen_ok, Instr.slice, hb, hte.run_sizeOf, Sem.run_pure]
                cases hx with | own _ hx =>
                obtain ⟨hle, hcase⟩ := hx m xs hn
                have hgood : VGood q (V.own n off len) → VGood q (V.own n (off + l.toNat) (hiN.toNat - l.toNat)) := fun hg => by cases hg with | own hg => exact .own hg
                rcases hcase with ⟨g1, rfl, g3⟩ | ⟨b, o, cap, cs, Te, fr, g1, rfl, g3, g4, g5, g6⟩
                · subst g3
                  refine ⟨_, run none 0 (Nat.le_refl 0), rfl, .own ⟨_, _, _, rfl⟩ fun m' xs' hm' => ?_, hgood⟩
                  have hl0 : l.toNat = 0 := by omega
                  have hh0 : hiN.toNat = 0 := by omega
                  rw [hn] at hm'; cases hm'
                  refine ⟨by omega, .inl ⟨g1, ?_, by omega⟩⟩
                  simp [hl0, hh0]
                · refine ⟨_, run _ cap g3, rfl, .own ⟨_, _, _, rfl⟩ fun m' xs' hm' => ?_, hgood⟩
                  rw [hn] at hm'; cases hm'
                  refine ⟨by omega, .inr ?_⟩
                  by_cases hc : cap = l.toNat
                  · rw [if_pos hc]
                    refine ⟨b, o, cap - l.toNat, cs, Te, fr, g1, rfl, by omega, .inl (by omega), g5, ?_⟩
                    have : off + l.toNat + (cap - l.toNat) = off + cap := by omega
                    rw [this]; exact g6
                  · rw [if_neg hc]
                    have ho : o = off * m := g4.resolve_left (by omega)
                    refine ⟨b, o + l.toNat * ie.size, cap - l.toNat, cs, Te, fr, g1, ?_, by omega, .inr ?_, g5, ?_⟩
                    · simp [Addr.add_mid]
                    · rw [ho, ← hse, ← hsz, Nat.add_mul]
                    · have : off + l.toNat + (cap - l.toNat) = off + cap := by omega
                      rw [this]; exact g6

end
end Go.Rx
