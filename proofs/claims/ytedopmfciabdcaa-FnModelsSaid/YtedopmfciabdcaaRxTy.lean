/-
  A table of types that is checked against a program is right; condition: the check answers true.
-/
import Derived.Test.YtedopmfciabdcaaRxSound29
import Derived.KernelRfl
namespace Go.Rx
open Go Go.RowKit

/-! ### a table of types, asked -/

def kindB : TypeDesc → TK → Bool
  | .struct fs, .struct l => fs.toList.map (fun f => (f.offset, f.type)) == l
  | .slice e, .slice e' => e == e'
  | .int k, .int k' => decide (k = k')
  | .string, .str => true
  | .bool, .bool => true
  | .pointer _, .ptr => true
  | _, _ => false

def zB : Z → Value → Bool
  | .d (.int k n), .int k' n' => decide (k = k') && decide (n = n')
  | .d (.bool b), .bool b' => b == b'
  | .d (.str []), .string ⟨⟨[]⟩⟩ => true
  | .d .nilp, .pointer none => true
  | .nils _, .slice none 0 0 => true
  | _, _ => false

def zsB : List Z → List Value → Bool
  | [], [] => true
  | z :: zs, v :: vs => zB z v && zsB zs vs
  | _, _ => false

def structB (P : Program) (t : Nat) : TypeDesc → Bool
  | .struct fs => !P.stoodInHeld t && !P.eqGuardType P.depth t && fs.toList.all fun f => f.name != "_"
  | _ => true

def tyB (P : Program) (t : Nat) (i : TI) : Bool :=
  match P.info? t, P.underlying t with
  | some info, some d => info.size == i.size && info.bytes == i.bytes && kindB d i.kind && structB P t d &&
      match info.zero with
      | some z => zsB i.zero z.cells.toList
      | none => false
  | _, _ => false

theorem kindB_ok {d : TypeDesc} {k : TK} (h : kindB d k = true) : kindOK d k := by
  cases d <;> cases k <;> simp_all [kindB, kindOK]

theorem zB_rel {z : Z} {v : Value} (h : zB z v = true) : Z.rel z v ∧ ∀ y, z = .d y → y.one = true := by
  unfold zB at h
  split at h
  · simp at h; obtain ⟨rfl, rfl⟩ := h; exact ⟨fun w ok => .int _ _, fun y hy => by cases hy; rfl⟩
  · simp at h; subst h; exact ⟨fun w ok => .bool _, fun y hy => by cases hy; rfl⟩
  · exact ⟨fun w ok => .str [] (by simp [LEN]), fun y hy => by cases hy; rfl⟩
  · exact ⟨fun w ok => .nilp, fun y hy => by cases hy; rfl⟩
  · exact ⟨rfl, fun y hy => by cases hy⟩
  · cases h

theorem zsB_rel : ∀ {zs : List Z} {vs : List Value}, zsB zs vs = true → Rel2 Z.rel zs vs ∧ ∀ x ∈ zs, ∀ y, x = .d y → y.one = true
  | [], [], _ => ⟨Rel2.nil _, fun x hx => by cases hx⟩
  | z :: zs, v :: vs, h => by
    simp only [zsB, Bool.and_eq_true] at h
    obtain ⟨h1, h2⟩ := zB_rel h.1
    obtain ⟨h3, h4⟩ := zsB_rel h.2
    refine ⟨⟨by simp [h3.1], fun i x y hx hy => ?_⟩, fun x hx => ?_⟩
    · cases i with
      | zero => simp at hx hy; subst hx; subst hy; exact h1
      | succ i => exact h3.2 i x y (by simpa using hx) (by simpa using hy)
    · rcases List.mem_cons.1 hx with rfl | hx
      · exact h2
      · exact h4 x hx
  | [], _ :: _, h => by cases h
  | _ :: _, [], h => by cases h

theorem tyB_at {P : Program} {t : Nat} {i : TI} (h : tyB P t i = true) : ∃ info d z, TyAt P t i info d z := by
  unfold tyB at h
  split at h
  · rename_i info d hi hu
    simp only [Bool.and_eq_true, beq_iff_eq] at h
    obtain ⟨⟨⟨⟨h1, h2⟩, h3⟩, h4⟩, h5⟩ := h
    split at h5
    · rename_i z hz
      obtain ⟨h6, h7⟩ := zsB_rel h5
      refine ⟨info, d, z, hi, h1, h2, hu, kindB_ok h3, hz, h6, h7, fun fs hfs => ?_⟩
      subst hfs
      simp only [structB, Bool.and_eq_true, Bool.not_eq_true'] at h4
      refine ⟨h4.1.1, h4.1.2, fun f hf => ?_⟩
      have := List.all_eq_true.1 h4.2 f hf
      simpa using this
    · cases h5
  · cases h

theorem tyOK_of {P : Program} {T : Tys} (h : ∀ t i, T t = some i → tyB P t i = true) : TyOK P T := fun t i ht => tyB_at (h t i ht)

end Go.Rx
