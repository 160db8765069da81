/-
  From a law's contract to the given row: what was handed in reads as it did; condition: the contract.
-/
import Derived.Test.YtedopmfciabdcaaRxP1
import Derived.ProofKit
import Derived.Deep.SlicePairs
namespace Go.Rx
open Go Go.RowKit Go.ChangeShapes Go.WideShapes Go.ChangeAt

section
variable {H : Type} {enc : TypeId × Value → H} {P : Program}

theorem trodAll_below (hl : laidOutB P = true) {W W' : World} (hb : Below W.heap.size W W') : ∀ {ts : List TypeId} {vs : List Value} {ds : List (DataW H)} {ps : List MemPlace},
    (∀ t ∈ ts, P.readableRec t = true ∧ t < P.types.size) → DataW.TrodAll enc P W 0 (fun _ => true) true ts vs ds ps → (∀ x ∈ ps, x.block < W.heap.size) →
    DataW.TrodAll enc P W' 0 (fun b => decide (b < W.heap.size)) true ts vs ds ps
  | [], [], [], ps, _, h, _ => h
  | [], [], _ :: _, _, _, h, _ => h.elim
  | [], _ :: _, _, _, _, h, _ => h.elim
  | _ :: _, [], _, _, _, h, _ => h.elim
  | _ :: _, _ :: _, [], _, _, h, _ => h.elim
  | t :: ts, v :: vs, d :: ds, ps, ht, ⟨p, q, h1, h2, e⟩, hlt =>
    ⟨p, q, Below.trod hl (ht t (by simp)).1 (ht t (by simp)).2 h1 hb (fun x hx => hlt x (by rw [e]; simp [hx])),
      trodAll_below hl hb (fun t' h' => ht t' (by simp [h'])) h2 (fun x hx => hlt x (by rw [e]; simp [hx])), e⟩

/-- A law whose contract says: true. -/
theorem law_calls {n : FuncId} {f : Func} {s : ChangeSpec} {W : World} {args : Array Value} {ds : List (DataW H)} {before : List MemPlace} {t : TypeId} {xs : List D} {outs : List V}
    (hl : laidOutB P = true) (hts : ∀ t ∈ f.params.toList, P.readableRec t = true ∧ t < P.types.size) (hres : f.resultTypes = #[t]) (hbool : P.underlying t = some .bool) (hvars : s.vars = [])
    (hr : (s.fn H ds).results = [.lit (.bool true)]) (ha : (s.fn H ds).args = ds) (hv : (s.fn H ds).vars = [])
    (hW : DataW.Whole enc P f.params.toList s.vars false W args.toList ds [] before)
    (hc : CallOK P n (xs.map .d) [] outs (.d (.bool true)) [])
    (hlen : xs.length = args.toList.length) (hx : ∀ (i : Nat) x v, xs[i]? = some x → args.toList[i]? = some v → DRel W (fun b => b < W.heap.size) x v) :
    Calls P n args W fun e W' => ∃ v, e = .returned v ∧ s.post enc P f false true false false W args v W' := by
  have h0 := hc.2 W args.toList (fun _ => none) (fun b => b < W.heap.size)
    ⟨fun n n' b h => absurd rfl h, fun n b h => absurd rfl h, fun n b h => absurd rfl h, fun b h => h, fun n o h => by cases h⟩ (by simpa using hlen) (fun i x v h1 h2 => by
      rw [List.getElem?_map] at h1
      cases hxi : xs[i]? with
      | none => rw [hxi] at h1; cases h1
      | some y => rw [hxi] at h1; cases h1; exact .d (hx i y v hxi h2))
  have h0' : Calls P n args W _ := h0
  refine h0'.mono fun e W' ⟨v, lam', ok', he, hf, _, hrel, _⟩ => ?_
  cases hrel with | d hd =>
  cases hd with | bool =>
  have hb : Below W.heap.size W W' := ⟨hf.os, hf.tape, hf.output, hf.size, fun k hk => hf.block k hk (fun ⟨n, h1, _⟩ => h1 rfl)⟩
  refine ⟨_, he, ds, [], before, [], before, [], hW, ?_, ?_, ?_, hb.frame _, fun h => by cases h⟩
  · rw [hres, List.append_nil, hr]
    exact trodAll_mk1 (shut_bool hbool true)
  · obtain ⟨p, q, h1, h2, rfl, _⟩ := hW
    rw [hvars] at h2
    obtain ⟨_, rfl⟩ := trodVars_none h2
    rw [List.append_nil, ha, List.append_nil]
    refine trodAll_below hl hb hts h1 fun x hx => ?_
    exact DataW.TrodAll.lt h1 x hx
  · rw [hvars, List.append_nil, hv]; rfl

/-- A slice is handed in. -/
theorem okWide_slice {W : World} {r : Go.Reach} {base : Nat} {t e : TypeId} {v : Value} (ht : P.underlying t = some (.slice e)) (h : Value.okWide P W r base t v) :
    v = .slice none 0 0 ∨ ∃ b o len cap, v = .slice (some ⟨b, o, none⟩) len cap := by
  simp only [Value.okWide, ht] at h
  simp only [Cell.okWide, ht] at h
  cases v <;> simp only [Cell.ok, ht] at h
  rename_i A len cap
  cases A with
  | none =>
    left
    split at h <;> first | rfl | (rename_i h1; cases h1; rfl) | exact h.elim | (rename_i h1; cases h1; done)
  | some a =>
    right
    obtain ⟨_, _, h3⟩ := h
    obtain ⟨b, o, sp⟩ := a
    have : sp = none := h3.2.1
    subst this
    exact ⟨b, o, len, cap, rfl⟩

theorem open_prs {W : World} {r : Go.Reach} {base : Nat} {t e : TypeId} {f0 f1 : Field} {v : Value} {d : DataW H} {ps : List MemPlace} (ht : P.underlying t = some (.slice e)) (he : P.underlying e = some (.struct #[f0, f1]))
    (ce : P.cellsOf e = 2) (o0 : f0.offset = 0) (o1 : f1.offset = 1) (c0 : P.cellsOf f0.type = 1) (c1 : P.cellsOf f1.type = 1) (u0 : P.underlying f0.type = some .string) (u1 : P.underlying f1.type = some .string)
    (hv : Value.okWide P W r base t v) (h : DataW.Trod enc P W 0 (fun _ => true) true t v d ps) :
    ∃ l : List Pr, DRel W (fun b => b < W.heap.size) (.sl (prs l)) v ∧ l.length ≤ LEN ∧ ∀ p ∈ l, p.key.length ≤ LEN ∧ p.val.length ≤ LEN := by
  obtain ⟨fuel, h⟩ := h
  rcases okWide_slice ht hv with rfl | ⟨b, o, len, cap, rfl⟩
  · exact ⟨[], .sl0 none 0, by simp, by simp⟩
  rcases Go.Deep.open_slice_pairs ht he ce o0 o1 c0 c1 h with ⟨h1, _⟩ | ⟨a, len', cap', m, n, V0, V1, D0, D1, P0, P1, h1, _, hl, hm, hmm, _, hx⟩
  · simp [Value.cells] at h1
  have h1' : some (⟨b, o, none⟩ : Addr) = some a ∧ len = len' ∧ cap = cap' := by simpa [Value.cells] using h1
  obtain ⟨ea, rfl, rfl⟩ := h1'
  cases ea
  simp only [if_true] at hmm
  subst hmm
  have hmax : maxLen = LEN := rfl
  have each : ∀ i, i < m → ∃ p : Pr, W.cell? ⟨b, o + i * 2, none⟩ = some (.string ⟨⟨p.key⟩⟩) ∧ W.cell? ⟨b, o + (i * 2 + 1), none⟩ = some (.string ⟨⟨p.val⟩⟩) ∧ p.key.length ≤ LEN ∧ p.val.length ≤ LEN := by
    intro i hi
    obtain ⟨g0, g1, g2, g3⟩ := hx i hi
    obtain ⟨s0, e0, _, k0⟩ := DataW.trod_string u0 g2
    obtain ⟨s1, e1, _, k1⟩ := DataW.trod_string u1 g3
    have e0' : V0 i = .string s0 := by simpa using e0
    have e1' : V1 i = .string s1 := by simpa using e1
    refine ⟨⟨s0.data.toList, s1.data.toList⟩, ?_, ?_, hmax ▸ (by simpa using k0), hmax ▸ (by simpa using k1)⟩
    · rw [← add_plain, g0, e0']
    · rw [← add_plain, g1, e1']
  by_cases hlen : len = 0
  · subst hlen
    exact ⟨[], .sl0 _ _, by simp, by simp⟩
  obtain ⟨q, hq⟩ := Go.Deep.choose_lt each
  have hblt : b < W.heap.size := by
    have h0 := (hq 0 (by omega)).1
    rcases Nat.lt_or_ge b W.heap.size with h | h
    · exact h
    · simp [World.cell?, h] at h0
  have hll : ((List.range len).map q).length = len := by simp
  refine ⟨(List.range len).map q, ?_, ?_, ?_⟩
  · have key := DRel.sl (w := W) (ok := fun b => b < W.heap.size) (prs ((List.range len).map q)) 2 b o m (fun k => if k % 2 = 0 then .string ⟨⟨(q (k / 2)).key⟩⟩ else .string ⟨⟨(q (k / 2)).val⟩⟩)
      (by rw [prs_length, hll]; exact hl) (by rw [prs_length, hll]; omega) hblt (fun e he => by
        simp only [prs, List.mem_map] at he
        obtain ⟨p, _, rfl⟩ := he; rfl) (fun i e j d hi hj => by
        rw [prs, List.getElem?_map, List.getElem?_map] at hi
        rcases Nat.lt_or_ge i len with hil | hil
        · rw [List.getElem?_range hil] at hi
          simp only [Option.map_some, Option.some.injEq] at hi
          subst hi
          have := hq i (by omega)
          match j, hj with
          | 0, _ => simp; rw [this.1]
          | 1, _ =>
            have e1 : (i * 2 + 1) % 2 = 1 := by omega
            have e2 : (i * 2 + 1) / 2 = i := by omega
            simp only [e1, e2]; rw [this.2.1]; rfl
          | j + 2, hj => simp [Pr.cells] at hj
        · rw [List.getElem?_eq_none (by simpa using hil)] at hi; cases hi) (fun i e j d hi hj => by
        rw [prs, List.getElem?_map, List.getElem?_map] at hi
        rcases Nat.lt_or_ge i len with hil | hil
        · rw [List.getElem?_range hil] at hi
          simp only [Option.map_some, Option.some.injEq] at hi
          subst hi
          have := hq i (by omega)
          match j, hj with
          | 0, hj =>
            simp [Pr.cells] at hj; subst hj
            have e1 : (i * 2 + 0) % 2 = 0 := by omega
            have e2 : (i * 2 + 0) / 2 = i := by omega
            simp only [e1, e2, if_true]; exact .str _ this.2.2.1
          | 1, hj =>
            simp [Pr.cells] at hj; subst hj
            have e1 : (i * 2 + 1) % 2 = 1 := by omega
            have e2 : (i * 2 + 1) / 2 = i := by omega
            simp only [e1, e2]; exact .str _ this.2.2.2
          | j + 2, hj => simp [Pr.cells] at hj
        · rw [List.getElem?_eq_none (by simpa using hil)] at hi; cases hi)
    rw [prs_length, hll] at key
    exact key
  · rw [hll]; omega
  · intro p hp
    obtain ⟨i, hi, rfl⟩ := List.mem_map.1 hp
    exact (hq i (by have := List.mem_range.1 hi; omega)).2.2
end
end Go.Rx
