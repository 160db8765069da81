/-
  Part of the proof that the abstract evaluator is right about the model's run; each lemma names its conditions.
-/
import Derived.Test.YtedopmfciabdcaaRxSound12
namespace Go.Rx
open Go Go.RowKit

section
variable {P : Program} {T : Tys} {okIn U : Nat → Prop} {w0 : World} {p : Nat → Prop} {w w' : World} {ok ok' : Nat → Prop} {lam lam' : Nat → Option Nat} {H H' : Heap} {v0 : V} {u0 : Upd} {cv : Value}

/-- What an operation that may change things comes to. -/
def Does (P : Program) (okIn U : Nat → Prop) (w0 : World) (p : Nat → Prop) (tb : Nat) (w : World) (ok : Nat → Prop) (lam : Nat → Option Nat) (H : Heap) (v0 : V) (u0 : Upd) (s : Sem Value) : Prop :=
  ∃ cv w' lam' ok', s.run P w = .ok cv w' ∧ Eff okIn U w0 p (pX p tb) w ok lam H v0 (updF u0 H) w' cv lam' ok'

theorem elemT_at (hT : TyOK P T) {t : Nat} {ti : TI} (h : (elemT T t).bind T = some ti) : ∃ e it info d z info2 z2, TyAt P t it info (.slice e) z2 ∧ T e = some ti ∧ TyAt P e ti info2 d z := by
  cases he : elemT T t with
  | none => simp [he] at h
  | some e =>
    simp [he] at h
    obtain ⟨it, hTt, hkt⟩ := elemT_some he
    obtain ⟨info, d, z, ht⟩ := hT t it hTt
    obtain rfl : d = .slice e := kindOK_slice (hkt ▸ ht.kind)
    obtain ⟨infoe, de, ze, hte⟩ := hT e ti h
    exact ⟨e, it, info, de, ze, infoe, z, ht, h, hte⟩

theorem lit_eff (hT : TyOK P T) (h : Ctx okIn U w0 p w ok lam H) {tb : Nat} (hf : Fresh p tb) {t len : Nat} {ti : TI} (hti : (elemT T t).bind T = some ti) {ps : List (Nat × V)} {ps' : Array (Nat × Value)}
    (hp : Rel2 (fun a b => a.1 = b.1 ∧ VRel w ok lam H a.2 b.2) ps ps'.toList) (hv : litVC tb len ti (litParts H 0 ps) (eqK v0 u0)) :
    Does P okIn U w0 p tb w ok lam H v0 u0 (Instr.buildSlice t len ps') := by
  cases hl : litParts H 0 ps with
  | none => rw [hl] at hv; simp [litVC] at hv
  | some pr =>
    obtain ⟨es, ls⟩ := pr
    rw [hl] at hv
    simp only [litVC] at hv
    obtain ⟨h1, h0, h2, h3, _, rfl, rfl⟩ := hv
    obtain ⟨e, it, info, de, ze, infoe, z2, ht, hTe, hte⟩ := elemT_at hT hti
    obtain ⟨g1, g2⟩ := litParts_sound h.hok ps ps'.toList 0 es ls hp hl
    have hlen : ps'.toList.length = len := by rw [← g1.1]; exact h1
    have hsz : ∀ (i : Nat) b, ps'.toList[i]? = some b → b.1 = 0 + i ∧ b.2.cells.size = ti.size := fun i b hb => by
      obtain ⟨x, hx, hr⟩ := g1.get' hb
      refine ⟨g2 i b hb, ?_⟩
      have := hr.1
      rw [h3 x (List.mem_of_getElem? hx)] at this
      simpa using this.symm
    have hfill : ∀ A : Array Value, A.size = len * ti.size → Instr.fill (fun i => some (i * ti.size, ti.size)) A ps'.toList = some ⟨ps'.toList.flatMap fun b => b.2.cells.toList⟩ := fun A hA => by
      have := fill_lit (size := ti.size) ps'.toList 0 [] A.toList hsz (by simp) (by rw [hlen]; simpa using hA)
      simpa using this
    let cs : List Value := ps'.toList.flatMap fun b => b.2.cells.toList
    have hrun : (Instr.buildSlice t len ps').run P w = .ok (.slice (some ⟨w.heap.size, 0, none⟩) len len) (w.alloc (.cells ⟨cs⟩ e)) := by
      have hno : ¬ (16777216 < len * ti.size) := by omega
      by_cases hz : len * ti.size = 0
      · have := hfill (Array.map (fun _ => default) (Array.range 0)) (by simp [hz])
        simp [Instr.buildSlice, ht.run_und, hte.run_sizeOf, hz, newRow, this]
        rfl
      · have := hfill ((Array.range (len * ti.size)).map (ze.cells[· % ze.cells.size]!)) (by simp)
        simp [Instr.buildSlice, ht.run_und, hte.run_sizeOf, hz, hno, hte.run_zero, newRow, this]
        rfl
    have hcl : cs.length = len * ti.size := by
      have : ∀ (l : List (Nat × Value)), (∀ b ∈ l, b.2.cells.size = ti.size) → (l.flatMap fun b => b.2.cells.toList).length = l.length * ti.size := by
        intro l hl
        induction l with
        | nil => simp
        | cons a l ih => simp only [List.flatMap_cons, List.length_append, List.length_cons, ih fun b hb => hl b (List.mem_cons_of_mem _ hb)]; have := hl a List.mem_cons_self; simp [this, Nat.add_mul]; omega
      rw [this _ fun b hb => by obtain ⟨i, hi, e⟩ := List.mem_iff_getElem.1 hb; exact (hsz i b (by rw [List.getElem?_eq_getElem hi, e])).2, hlen]
    obtain ⟨lam', ok', he⟩ := newArr_eff (w' := w.alloc (.cells ⟨cs⟩ e)) h hf ls (m := ti.size) (len := len) (cap := len) (xs := es) (cs := ⟨cs⟩) (Te := e) (fr := (0, 0))
      (fun b hb => heap_alloc_old w _ b hb) (by simp) ⟨rfl, rfl, rfl⟩ (heap_alloc_new w _) (fun i _ => by simp) h3 (by unfold MAX; omega) (by omega) (Nat.le_refl _) (by simp [hcl]) (by simp [hcl, h1]) (fun i x j d hi hj => by
        obtain ⟨b, hb, hr⟩ := g1.get hi
        obtain ⟨c, hc, hd⟩ := hr.get hj
        have hjlt : j < ti.size := by rw [← h3 x (List.mem_of_getElem? hi)]; exact (List.getElem?_eq_some_iff.1 hj).1
        refine ⟨c, ?_, hd⟩
        have := flat_get (size := ti.size) ps'.toList i j b c (fun b hb => by obtain ⟨i, hi, e⟩ := List.mem_iff_getElem.1 hb; exact (hsz i b (by rw [List.getElem?_eq_getElem hi, e])).2) hb (by simpa using hc) hjlt
        simpa using this)
    exact ⟨_, _, lam', ok', hrun, he⟩

end
end Go.Rx
