/-
  From a law's contract to the given row: what was handed in reads as it did; condition: the contract.
-/
import Derived.Test.YtedopmfciabdcaaRxRow
namespace Go.Rx
open Go Go.RowKit Go.ChangeShapes Go.WideShapes Go.ChangeAt

section
variable {H : Type} {enc : TypeId × Value → H} {P : Program}

theorem open_ones {W : World} {t e fuel : Nat} {b o len cap : Nat} {x : DataW H × List MemPlace} {α : Type} (cell : α → D) [Inhabited α] (ht : P.underlying t = some (.slice e)) (ce : P.cellsOf e = 1)
    (hone : ∀ n v y, DataW.trod enc P W 0 (fun _ => true) true n e [v] = some y → ∃ a, DRel W (fun b => b < W.heap.size) (cell a) v)
    (h : DataW.trod enc P W 0 (fun _ => true) true fuel t [.slice (some ⟨b, o, none⟩) len cap] = some x) :
    ∃ l : List α, DRel W (fun b => b < W.heap.size) (.sl (l.map fun a => [cell a])) (.slice (some ⟨b, o, none⟩) len cap) ∧ l.length ≤ LEN := by
  rcases Go.Deep.open_slice ht h with ⟨h1, _⟩ | ⟨a, len', cap', m, n, D0, Pl, h1, _, hl, hm, hmm, _, hx⟩
  · simp at h1
  have h1' : some (⟨b, o, none⟩ : Addr) = some a ∧ len = len' ∧ cap = cap' := by simpa using h1
  obtain ⟨ea, rfl, rfl⟩ := h1'
  cases ea
  simp only [if_true] at hmm
  subst hmm
  have hmax : maxLen = LEN := rfl
  have each : ∀ i, i < m → ∃ q : α × Value, W.cell? ⟨b, o + i, none⟩ = some q.2 ∧ DRel W (fun b => b < W.heap.size) (cell q.1) q.2 := by
    intro i hi
    obtain ⟨cs', g1, g2⟩ := hx i hi
    rw [ce] at g1
    obtain ⟨_, hlen, hcell⟩ := World.cells?_some g1
    match cs', hlen with
    | [v], _ =>
      obtain ⟨a, ha⟩ := hone _ _ _ g2
      have e0 := hcell 0 (by omega)
      refine ⟨(a, v), ?_, ha⟩
      rw [Nat.mul_one, add_plain, add_plain] at e0
      simpa using e0
  by_cases hlen : len = 0
  · subst hlen
    exact ⟨[], .sl0 _ _, by simp⟩
  obtain ⟨q, hq⟩ := Go.Deep.choose_lt each
  have hblt : b < W.heap.size := by
    have h0 := (hq 0 (by omega)).1
    rcases Nat.lt_or_ge b W.heap.size with h | h
    · exact h
    · simp [World.cell?, h] at h0
  have hll : ((List.range len).map fun i => (q i).1).length = len := by simp
  have hget : ∀ (i : Nat) e (j : Nat) d, (((List.range len).map fun i => (q i).1).map fun a => [cell a])[i]? = some e → e[j]? = some d → i < len ∧ j = 0 ∧ d = cell (q i).1 := by
    intro i e j d hi hj
    rw [List.getElem?_map, List.getElem?_map] at hi
    rcases Nat.lt_or_ge i len with hil | hil
    · rw [List.getElem?_range hil] at hi
      simp only [Option.map_some, Option.some.injEq] at hi
      subst hi
      match j, hj with
      | 0, hj => simp at hj; exact ⟨hil, rfl, hj.symm⟩
      | j + 1, hj => simp at hj
    · rw [List.getElem?_eq_none (by simpa using hil)] at hi; cases hi
  refine ⟨(List.range len).map fun i => (q i).1, ?_, by rw [hll]; omega⟩
  have key := DRel.sl (w := W) (ok := fun b => b < W.heap.size) (((List.range len).map fun i => (q i).1).map fun a => [cell a]) 1 b o m (fun k => (q k).2)
    (by simpa using hl) (by simp; omega) hblt (fun e he => by
      simp only [List.mem_map] at he
      obtain ⟨_, _, rfl⟩ := he; rfl) (fun i e j d hi hj => by
      obtain ⟨h1, rfl, rfl⟩ := hget i e j d hi hj
      simp only [Nat.mul_one, Nat.add_zero]
      exact (hq i (by omega)).1) (fun i e j d hi hj => by
      obtain ⟨h1, rfl, rfl⟩ := hget i e j d hi hj
      simp only [Nat.mul_one, Nat.add_zero]
      exact (hq i (by omega)).2)
  rw [List.length_map, hll] at key
  exact key

/-- A slice of one-cell elements is handed in. -/
theorem open_ones' {W : World} {t e fuel : Nat} {v : Value} {x : DataW H × List MemPlace} {α : Type} (cell : α → D) [Inhabited α] (ht : P.underlying t = some (.slice e)) (ce : P.cellsOf e = 1)
    (hone : ∀ n v y, DataW.trod enc P W 0 (fun _ => true) true n e [v] = some y → ∃ a, DRel W (fun b => b < W.heap.size) (cell a) v)
    (hv : v = .slice none 0 0 ∨ ∃ b o len cap, v = .slice (some ⟨b, o, none⟩) len cap)
    (h : DataW.trod enc P W 0 (fun _ => true) true fuel t [v] = some x) :
    ∃ l : List α, DRel W (fun b => b < W.heap.size) (.sl (l.map fun a => [cell a])) v ∧ l.length ≤ LEN := by
  rcases hv with rfl | ⟨b, o, len, cap, rfl⟩
  · exact ⟨[], .sl0 _ _, by simp⟩
  · exact open_ones cell ht ce hone h

theorem one_bool {W : World} {e : Nat} (he : P.underlying e = some .bool) : ∀ n v y, DataW.trod enc P W 0 (fun _ => true) true n e [v] = some y → ∃ a, DRel W (fun b => b < W.heap.size) (.bool a) v := by
  intro n v y h
  obtain ⟨b, e0, _⟩ := DataW.trod_bool he h
  simp at e0; subst e0
  exact ⟨b, .bool b⟩

theorem open_str {W : World} {r : Go.Reach} {base t : Nat} {v : Value} {d : DataW H} {ps : List MemPlace} (ht : P.underlying t = some .string) (hv : Value.okWide P W r base t v) (h : DataW.Trod enc P W 0 (fun _ => true) true t v d ps) :
    ∃ s : List UInt8, DRel W (fun b => b < W.heap.size) (.str s) v ∧ s.length ≤ LEN := by
  simp only [Value.okWide, ht] at hv
  simp only [Cell.okWide, ht] at hv
  cases v <;> simp only [Cell.ok, ht] at hv
  rename_i b
  obtain ⟨fuel, h⟩ := h
  obtain ⟨s, h1, _, h2⟩ := DataW.trod_string ht h
  simp [Value.cells] at h1
  subst h1
  have hmax : maxLen = LEN := rfl
  exact ⟨b.data.toList, .str _ (hmax ▸ (by simpa using h2)), hmax ▸ (by simpa using h2)⟩

theorem one_byte {W : World} {e : Nat} (he : P.underlying e = some (.int .u8)) : ∀ n v y, DataW.trod enc P W 0 (fun _ => true) true n e [v] = some y → ∃ a : UInt8, DRel W (fun b => b < W.heap.size) (.int .u8 a.toNat) v := by
  intro n v y h
  obtain ⟨k, e0, _, hw⟩ := DataW.trod_int he h
  simp at e0; subst e0
  simp only [Lit.wf, Bool.and_eq_true, decide_eq_true_eq] at hw
  have h1 : IntKind.u8.min = 0 := rfl
  have h2 : IntKind.u8.max = 255 := rfl
  rw [h1, h2] at hw
  have : k = ((UInt8.ofNat k.toNat).toNat : Int) := by
    simp; omega
  refine ⟨UInt8.ofNat k.toNat, ?_⟩
  rw [← this]
  exact .int _ _

theorem open_bytes {W : World} {r : Go.Reach} {base t e : Nat} {v : Value} {d : DataW H} {ps : List MemPlace} (ht : P.underlying t = some (.slice e)) (ce : P.cellsOf e = 1) (he : P.underlying e = some (.int .u8)) (hv : Value.okWide P W r base t v) (h : DataW.Trod enc P W 0 (fun _ => true) true t v d ps) :
    ∃ l : List UInt8, DRel W (fun b => b < W.heap.size) (.sl (l.map byteCell)) v ∧ l.length ≤ LEN := by
  obtain ⟨fuel, h⟩ := h
  have hs := okWide_slice ht hv
  have hc : v.cells.toList = [v] := by rcases hs with rfl | ⟨b, o, len, cap, rfl⟩ <;> rfl
  rw [hc] at h
  exact open_ones' (fun a : UInt8 => D.int .u8 a.toNat) ht ce (one_byte he) hs h

theorem cell_okWide_slice {W : World} {r : Go.Reach} {base : Nat} {t e : TypeId} {v : Value} (ht : P.underlying t = some (.slice e)) (h : Cell.okWide P W r base t v) :
    v = .slice none 0 0 ∨ ∃ b o len cap, v = .slice (some ⟨b, o, none⟩) len cap := by
  refine okWide_slice (P := P) (W := W) (r := r) (base := base) ht ?_
  simp only [Value.okWide, ht]; exact h
end
end Go.Rx
