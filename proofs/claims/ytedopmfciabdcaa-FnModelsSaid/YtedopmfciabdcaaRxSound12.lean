/-
  Part of the proof that the abstract evaluator is right about the model's run; each lemma names its conditions.
-/
import Derived.Test.YtedopmfciabdcaaRxSound11
namespace Go.Rx
open Go Go.RowKit

section
variable {P : Program} {T : Tys} {okIn U : Nat → Prop} {w0 : World} {p : Nat → Prop} {w w' : World} {ok ok' : Nat → Prop} {lam lam' : Nat → Option Nat} {H H' : Heap} {v0 : V} {u0 : Upd} {cv : Value}

/-- The names of operation i. -/
def pX (p : Nat → Prop) (tb n : Nat) : Prop := p n ∨ tb ≤ n ∧ n < tb + 1000

theorem pX_tb {p : Nat → Prop} {tb : Nat} : pX p tb tb := .inr ⟨Nat.le_refl _, by omega⟩

def Fresh (p : Nat → Prop) (tb : Nat) : Prop := ∀ n, tb ≤ n → n < tb + 1000 → ¬ p n

theorem Ctx.none (h : Ctx okIn U w0 p w ok lam H) {tb n : Nat} (hf : Fresh p tb) (h1 : tb ≤ n) (h2 : n < tb + 1000) : H n = none := by
  cases hh : H n with
  | none => rfl
  | some o => exact absurd (h.dom n (by rw [hh]; simp)) (hf n h1 h2)

theorem rel2_cells {cs : List Value} {xs : List D} {f : Nat → Prop} (h : Rel2 (DRel w f) xs cs) {j : Nat} {d : D} (hj : xs[j]? = some d) : ∃ c, cs[j]? = some c ∧ DRel w f d c := h.get hj

/-- A new array in a new block, after some names were let go. -/
theorem newArr_eff (h : Ctx okIn U w0 p w ok lam H) {tb : Nat} (hf : Fresh p tb) (ls : List Nat) {m len cap : Nat} {xs : List (List D)} {cs : Array Value} {Te : TypeId} {fr : Nat × Nat}
    (hblk : ∀ b, b < w.heap.size → w'.heap[b]? = w.heap[b]?) (hsz : w.heap.size < w'.heap.size) (hmeta : w'.os = w.os ∧ w'.tape = w.tape ∧ w'.output = w.output)
    (hnew : w'.heap[w.heap.size]? = some (.cells cs Te fr)) (hfz : ∀ i, i < cs.size → w'.frozen? ⟨w.heap.size, i, none⟩ = false)
    (hm : ∀ e ∈ xs, e.length = m) (hmax : xs.length ≤ MAX) (hlen : len ≤ xs.length) (hcap : len ≤ cap) (hcs : cap * m ≤ cs.size) (hxs : xs.length * m ≤ cs.size)
    (hel : ∀ (i : Nat) e (j : Nat) d, xs[i]? = some e → e[j]? = some d → ∃ c, cs[i * m + j]? = some c ∧ DRel w (okB ok lam H ls) d c) :
    ∃ lam' ok', Eff okIn U w0 p (pX p tb) w ok lam H (.own tb 0 len) (updF (ls.map (·, none) ++ [(tb, some (.arr m xs))]) H) w' (.slice (some ⟨w.heap.size, 0, none⟩) len cap) lam' ok' := by
  rw [updF_append, updF_rem, updF_one]
  obtain ⟨r1, r2⟩ := h.hok.rem (p := p) ls h.good h.dom
  have hg1 : ∀ k o, remF ls H k = some o → OGood p o := fun k o ho => by
    unfold remF at ho; split at ho
    · cases ho
    · exact h.good k o ho
  have hd1 : ∀ k, remF ls H k ≠ none → p k := fun k hk => by
    unfold remF at hk; split at hk
    · simp at hk
    · exact h.dom k hk
  have hfr : ¬ p tb := hf tb (Nat.le_refl _) (by omega)
  have hn : remF ls H tb = none := by
    cases hh : remF ls H tb with
    | none => rfl
    | some o => exact absurd (hd1 tb (by rw [hh]; simp)) hfr
  obtain ⟨a1, a2⟩ := r1.addNew (p := p) (w' := w') (o := .arr m xs) hn hfr hg1 hd1 hblk hsz (fun hc => by
    refine ⟨hm, hmax, .inr ⟨w.heap.size, cs, Te, fr, by simp, hnew, hfz, hxs, fun i e j d hi hj => ?_⟩⟩
    obtain ⟨c, h1, h2⟩ := hel i e j d hi hj
    exact ⟨c, h1, h2.mono hc.hw hc.hok⟩)
  have hchg : ∀ x v, VGood p x → VRel w ok lam H x v → VRel w' (okB ok lam H ls) (fun k => if k = tb then some w.heap.size else lam k) (fun k => if tb = k then some (.arr m xs) else remF ls H k) x v :=
    fun x v hg hv => a2.v (r2.v hv hg) hg
  refine ⟨_, _, ⟨⟨a1, fun n o ho => ?_, fun n hn => ?_, fun b hb => ?_, fun n b hn hb => ?_, Nat.le_trans h.size (Nat.le_of_lt hsz)⟩, ?_, .own pX_tb, ?_, hchg⟩⟩
  · by_cases e : tb = n
    · rw [if_pos e] at ho; cases ho; trivial
    · rw [if_neg e] at ho; exact (hg1 n o ho).mono fun _ h => .inl h
  · by_cases e : tb = n
    · subst e; exact pX_tb
    · rw [if_neg e] at hn; exact .inl (hd1 n hn)
  · rcases hb with hb | ⟨k, hk, hk1, hk2⟩
    · exact h.okb b hb
    · exact .inr (h.ownb k b hk1 hk2)
  · by_cases e : tb = n
    · subst e; simp at hb; right; rw [← hb]; exact h.size
    · rw [if_neg e] at hn; rw [if_neg (Ne.symm e)] at hb
      have : H n ≠ none := by unfold remF at hn; split at hn; simp at hn; exact hn
      exact h.ownb n b this hb
  · refine .own ⟨_, _, _, rfl⟩ fun m' xs' hc => ?_
    simp at hc
    obtain ⟨rfl, rfl⟩ := hc
    exact ⟨by omega, .inr ⟨w.heap.size, 0, cap, cs, Te, fr, by simp, rfl, hcap, .inr (by simp), hnew, by simpa using hcs⟩⟩
  · exact ⟨hmeta.1, hmeta.2.1, hmeta.2.2, Nat.le_of_lt hsz, fun k hk _ => hblk k hk, sized_same hblk⟩

/-- A new box, in a new block. -/
theorem newBox_eff (h : Ctx okIn U w0 p w ok lam H) {tb : Nat} (hf : Fresh p tb) {vs : List V} {vals : List Value} {zs : List Z} {Te : TypeId} (hr : Rel2 (VRel w ok lam H) vs vals) (hg : ∀ v ∈ vs, VGood p v) (hlen : vs.length ≤ 900) :
    ∃ lam' ok', Eff okIn U w0 p (pX p tb) w ok lam H (.ref tb 0) (updF ((mkBox tb 0 vs zs).2 ++ [(tb, some (.box (mkBox tb 0 vs zs).1))]) H) (w.alloc (.cells ⟨vals⟩ Te)) (.pointer (some ⟨w.heap.size, 0, none⟩)) lam' ok' := by
  rw [updF_append, updF_one]
  have hfr : ¬ p tb := hf tb (Nat.le_refl _) (by omega)
  obtain ⟨lam1, h1, h2, h3, h4, h5, h6, h7, h8⟩ := mkBox_sound (tb := tb) vs vals zs 0 p lam H h.hok h.good h.dom (fun j _ hj => hf _ (by omega) (by omega)) hr hg
  have hq : ∀ n, (p n ∨ tb + 1 + 0 ≤ n ∧ n < tb + 1 + 0 + vs.length) → pX p tb n := fun n hn => by
    rcases hn with hn | hn
    · exact .inl hn
    · exact .inr ⟨by omega, by omega⟩
  have hne : ¬ (p tb ∨ tb + 1 + 0 ≤ tb ∧ tb < tb + 1 + 0 + vs.length) := fun hn => by
    rcases hn with hn | hn
    · exact hfr hn
    · omega
  have hn : updF (mkBox tb 0 vs zs).2 H tb = none := by
    cases hh : updF (mkBox tb 0 vs zs).2 H tb with
    | none => rfl
    | some o => exact absurd (h6 tb (by rw [hh]; simp)) hne
  have hblk : ∀ b, b < w.heap.size → (w.alloc (.cells ⟨vals⟩ Te)).heap[b]? = w.heap[b]? := fun b hb => heap_alloc_old w _ b hb
  have hnew : (w.alloc (.cells ⟨vals⟩ Te)).heap[w.heap.size]? = some (.cells ⟨vals⟩ Te (0, 0)) := heap_alloc_new w _
  obtain ⟨a1, a2⟩ := h1.addNew (p := fun n => p n ∨ tb + 1 + 0 ≤ n ∧ n < tb + 1 + 0 + vs.length) (w' := w.alloc (.cells ⟨vals⟩ Te)) (o := .box (mkBox tb 0 vs zs).1) hn hne h5 h6 hblk (by simp) (fun hc =>
    ⟨w.heap.size, ⟨vals⟩, Te, by simp, hnew, by simpa using h3.1, fun i v c hv hcc => hc.v (h3.2 i v c hv (by simpa using hcc)) (h4 v (List.mem_of_getElem? hv))⟩)
  refine ⟨_, _, ⟨⟨a1, fun n o ho => ?_, fun n hn => ?_, h.okb, fun n b hn hb => ?_, Nat.le_trans h.size (by simp)⟩, ?_, .ref pX_tb, ?_, fun x v hgx hv => ?_⟩⟩
  · by_cases e : tb = n
    · rw [if_pos e] at ho; cases ho; exact fun v hv => (h4 v hv).mono hq
    · rw [if_neg e] at ho; exact (h5 n o ho).mono hq
  · by_cases e : tb = n
    · subst e; exact pX_tb
    · rw [if_neg e] at hn; exact hq n (h6 n hn)
  · by_cases e : tb = n
    · subst e; simp at hb; right; rw [← hb]; exact h.size
    · rw [if_neg e] at hn; rw [if_neg (Ne.symm e)] at hb
      obtain ⟨k1, k2⟩ := h7 n b hn hb
      exact h.ownb n b k1 k2
  · exact .ref ⟨_, rfl⟩ fun o ho => ⟨w.heap.size, by simp, rfl⟩
  · exact ⟨rfl, rfl, rfl, by simp, fun k hk _ => hblk k hk, sized_same hblk⟩
  · exact a2.v (h2.v hv hgx) (hgx.mono fun _ h => .inl h)

theorem moveNil_eff (h : Ctx okIn U w0 p w ok lam H) {tb m : Nat} (hf : Fresh p tb) :
    ∃ lam' ok', Eff okIn U w0 p (pX p tb) w ok lam H (.own tb 0 0) (updF [(tb, some (.arr m []))] H) w (.slice none 0 0) lam' ok' := by
  rw [updF_one]
  have hfr : ¬ p tb := hf tb (Nat.le_refl _) (by omega)
  obtain ⟨a1, a2⟩ := h.hok.addNil (p := p) (m := m) (h.none hf (Nat.le_refl _) (by omega)) hfr h.good h.dom
  refine ⟨_, _, ⟨⟨a1, fun n o ho => ?_, fun n hn => ?_, h.okb, fun n b hn hb => ?_, h.size⟩, ?_, .own pX_tb, Fr.refl _ _, fun x v hg hv => a2.v hv hg⟩⟩
  · by_cases e : tb = n
    · rw [if_pos e] at ho; cases ho; trivial
    · rw [if_neg e] at ho; exact (h.good n o ho).mono fun _ h => .inl h
  · by_cases e : tb = n
    · subst e; exact pX_tb
    · rw [if_neg e] at hn; exact .inl (h.dom n hn)
  · by_cases e : tb = n
    · subst e; simp at hb
    · rw [if_neg e] at hn; rw [if_neg (Ne.symm e)] at hb; exact h.ownb n b hn hb
  · refine .own ⟨_, _, _, rfl⟩ fun m' xs' hc => ?_
    simp at hc
    obtain ⟨rfl, rfl⟩ := hc
    exact ⟨by simp, .inl ⟨by simp, rfl, rfl⟩⟩

/-! ### slice literals, make, bytes of a string -/

theorem litParts_sound (hk : HOK w ok lam H) : ∀ (ps : List (Nat × V)) (ps' : List (Nat × Value)) (k : Nat) (es : List (List D)) (ls : List Nat),
    Rel2 (fun a b => a.1 = b.1 ∧ VRel w ok lam H a.2 b.2) ps ps' → litParts H k ps = some (es, ls) →
    Rel2 (fun e b => Rel2 (DRel w (okB ok lam H ls)) e b.2.cells.toList) es ps' ∧ ∀ (i : Nat) b, ps'[i]? = some b → b.1 = k + i := by
  intro ps
  induction ps with
  | nil =>
    intro ps' k es ls hr h
    rw [hr.nil_left]; simp [litParts] at h; rw [h.1]
    exact ⟨Rel2.nil _, by simp⟩
  | cons a ps ih =>
    intro ps' k es ls hr h
    obtain ⟨i, x⟩ := a
    obtain ⟨⟨i', xv⟩, rest, rfl, ⟨hi, hx⟩, hrest⟩ := hr.uncons
    obtain rfl : i = i' := hi
    simp only [litParts] at h
    cases hp : litPart H (i == k) x.cells with
    | none => simp [hp] at h
    | some d1 =>
      obtain ⟨ds, l1⟩ := d1
      cases hq : litParts H (k + 1) ps with
      | none => simp [hp, hq] at h
      | some d2 =>
        obtain ⟨es2, l2⟩ := d2
        simp [hp, hq] at h
        obtain ⟨rfl, rfl⟩ := h
        unfold litPart at hp
        split at hp
        · rename_i b vs hik hc
          have hik' : i = k := by simpa using hik
          subst hik'
          obtain ⟨g1, g2⟩ := ih rest (i + 1) es2 l2 hrest hq
          refine ⟨Rel2.cons ((cDs_sound hk (V.cells_sound hx hc) hp).mono fun _ _ _ hd => hd.mono (fun _ _ => rfl) fun b hb => okB_mono hb (by simp; intro n hn; exact .inl hn))
            (g1.mono fun _ _ _ he => he.mono fun _ _ _ hd => hd.mono (fun _ _ => rfl) fun b hb => okB_mono hb (by simp; intro n hn; exact .inr hn)), fun j b hb => ?_⟩
          cases j with
          | zero => simp at hb; subst hb; rfl
          | succ j => simp at hb; rw [g2 j b hb]; omega
        · simp at hp

theorem fill_lit {size : Nat} : ∀ (ps : List (Nat × Value)) (k : Nat) (pre : List Value) (post : List Value), (∀ (i : Nat) b, ps[i]? = some b → b.1 = k + i ∧ b.2.cells.size = size) →
    pre.length = k * size → post.length = ps.length * size →
    Instr.fill (fun i => some (i * size, size)) ⟨pre ++ post⟩ ps = some ⟨pre ++ (ps.flatMap fun b => b.2.cells.toList)⟩ := by
  intro ps
  induction ps with
  | nil => intro k pre post h h1 h2; have : post = [] := List.eq_nil_of_length_eq_zero (by simpa using h2); subst this; simp [Instr.fill]
  | cons b ps ih =>
    intro k pre post h h1 h2
    obtain ⟨i, v⟩ := b
    obtain ⟨hi, hs⟩ := h 0 (i, v) rfl
    simp at hi hs
    subst hi
    simp only [List.length_cons, Nat.add_mul, Nat.one_mul] at h2
    have hfold := fold_array v (i * size) ⟨pre ++ post⟩ (by simp [h1, h2, hs])
    simp only [Instr.fill]
    rw [if_neg (by simp only [ne_eq, Bool.or_eq_true, decide_eq_true_eq, not_or]; simp [hs, h1, h2]), hfold]
    have hsp : splice (pre ++ post) (i * size) v.cells.toList = (pre ++ v.cells.toList) ++ post.drop size := by
      unfold splice
      have : v.cells.toList.length = size := by simpa using hs
      rw [← h1, List.take_left, this, ← List.drop_drop, List.drop_left]
    rw [hsp, ih (i + 1) (pre ++ v.cells.toList) (post.drop size) (fun j b hb => by
      have := h (j + 1) b (by simpa using hb)
      exact ⟨by omega, this.2⟩) (by simp [h1, hs, Nat.add_mul]) (by simp; omega)]
    simp [List.append_assoc]

theorem flat_get {size : Nat} : ∀ (ps : List (Nat × Value)) (i j : Nat) b c, (∀ b ∈ ps, b.2.cells.size = size) → ps[i]? = some b → b.2.cells[j]? = some c → j < size →
    (ps.flatMap fun b => b.2.cells.toList)[i * size + j]? = some c := by
  intro ps
  induction ps with
  | nil => intro i j b c _ h; simp at h
  | cons a ps ih =>
    intro i j b c hs h hc hj
    have ha : a.2.cells.toList.length = size := by simpa using hs a List.mem_cons_self
    rw [List.flatMap_cons]
    cases i with
    | zero =>
      simp at h; subst h
      rw [List.getElem?_append_left (by omega)]
      simpa using hc
    | succ i =>
      rw [List.getElem?_append_right (by rw [ha, Nat.add_mul]; omega), ha]
      rw [show (i + 1) * size + j - size = i * size + j by rw [Nat.add_mul]; omega]
      exact ih i j b c (fun b hb => hs b (List.mem_cons_of_mem _ hb)) (by simpa using h) hc hj

end
end Go.Rx
