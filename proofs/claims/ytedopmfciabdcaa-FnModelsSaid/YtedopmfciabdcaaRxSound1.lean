/-
  Part of the proof that the abstract evaluator is right about the model's run; each lemma names its conditions.
-/
import Derived.Test.YtedopmfciabdcaaRxVC
import Derived.ChangeKeysEq
import Derived.Laws.StructEq
namespace Go.Rx
open Go Go.RowKit

def Rel2 {α β : Type} (R : α → β → Prop) (l : List α) (l' : List β) : Prop :=
  l.length = l'.length ∧ ∀ (i : Nat) x y, l[i]? = some x → l'[i]? = some y → R x y

theorem Rel2.nil {α β : Type} (R : α → β → Prop) : Rel2 R [] [] := ⟨rfl, by simp⟩

theorem Rel2.cons {α β : Type} {R : α → β → Prop} {x : α} {y : β} {l : List α} {l' : List β} (h : R x y) (hl : Rel2 R l l') : Rel2 R (x :: l) (y :: l') := by
  refine ⟨by simp [hl.1], fun i a b h1 h2 => ?_⟩
  cases i with
  | zero => simp at h1 h2; subst h1; subst h2; exact h
  | succ i => simp at h1 h2; exact hl.2 i a b h1 h2

theorem Rel2.uncons {α β : Type} {R : α → β → Prop} {x : α} {l : List α} {l' : List β} (h : Rel2 R (x :: l) l') : ∃ y m, l' = y :: m ∧ R x y ∧ Rel2 R l m := by
  cases l' with
  | nil => simp [Rel2] at h
  | cons y m => exact ⟨y, m, rfl, h.2 0 x y rfl rfl, by simpa using h.1, fun i a b h1 h2 => h.2 (i + 1) a b (by simpa using h1) (by simpa using h2)⟩

theorem Rel2.nil_left {α β : Type} {R : α → β → Prop} {l' : List β} (h : Rel2 R [] l') : l' = [] := by
  cases l' with
  | nil => rfl
  | cons y m => simp [Rel2] at h

theorem Rel2.mono {α β : Type} {R S : α → β → Prop} {l : List α} {l' : List β} (h : Rel2 R l l') (hrs : ∀ x y, x ∈ l → R x y → S x y) : Rel2 S l l' :=
  ⟨h.1, fun i x y h1 h2 => hrs x y (List.mem_of_getElem? h1) (h.2 i x y h1 h2)⟩

theorem Rel2.drop {α β : Type} {R : α → β → Prop} {l : List α} {l' : List β} (h : Rel2 R l l') (n : Nat) : Rel2 R (l.drop n) (l'.drop n) :=
  ⟨by simp [h.1], fun i x y h1 h2 => h.2 (n + i) x y (by simpa using h1) (by simpa using h2)⟩

theorem Rel2.take {α β : Type} {R : α → β → Prop} {l : List α} {l' : List β} (h : Rel2 R l l') (n : Nat) : Rel2 R (l.take n) (l'.take n) := by
  refine ⟨by simp [h.1], fun i x y h1 h2 => ?_⟩
  rw [List.getElem?_take] at h1 h2
  split at h1
  · simp_all; exact h.2 i x y h1 h2
  · simp at h1

theorem Rel2.append {α β : Type} {R : α → β → Prop} {l m : List α} {l' m' : List β} (h : Rel2 R l l') (h2 : Rel2 R m m') : Rel2 R (l ++ m) (l' ++ m') := by
  induction l generalizing l' with
  | nil => rw [h.nil_left]; exact h2
  | cons x l ih => obtain ⟨y, t, rfl, hxy, ht⟩ := h.uncons; exact Rel2.cons hxy (ih ht)

theorem Rel2.map {α β γ : Type} {R : α → β → Prop} {S : γ → β → Prop} {l : List α} {l' : List β} (f : α → γ) (h : Rel2 R l l') (hf : ∀ x y, x ∈ l → R x y → S (f x) y) : Rel2 S (l.map f) l' := by
  refine ⟨by simp [h.1], fun i x y h1 h2 => ?_⟩
  rw [List.getElem?_map] at h1
  cases hx : l[i]? with
  | none => simp [hx] at h1
  | some a => simp [hx] at h1; subst h1; exact hf a y (List.mem_of_getElem? hx) (h.2 i a y hx h2)

theorem Rel2.get {α β : Type} {R : α → β → Prop} {l : List α} {l' : List β} (h : Rel2 R l l') {i : Nat} {x : α} (hx : l[i]? = some x) : ∃ y, l'[i]? = some y ∧ R x y := by
  have hi : i < l'.length := by rw [← h.1]; exact (List.getElem?_eq_some_iff.1 hx).1
  exact ⟨l'[i], List.getElem?_eq_getElem hi, h.2 i x _ hx (List.getElem?_eq_getElem hi)⟩

theorem Rel2.get' {α β : Type} {R : α → β → Prop} {l : List α} {l' : List β} (h : Rel2 R l l') {i : Nat} {y : β} (hy : l'[i]? = some y) : ∃ x, l[i]? = some x ∧ R x y := by
  have hi : i < l.length := by rw [h.1]; exact (List.getElem?_eq_some_iff.1 hy).1
  exact ⟨l[i], List.getElem?_eq_getElem hi, h.2 i _ y (List.getElem?_eq_getElem hi) hy⟩

/-! ### types -/

def kindOK : TypeDesc → TK → Prop
  | .struct fs, .struct l => fs.toList.map (fun f => (f.offset, f.type)) = l
  | .slice e, .slice e' => e = e'
  | .int k, .int k' => k = k'
  | .string, .str => True
  | .bool, .bool => True
  | .pointer _, .ptr => True
  | d, .other => d.isRow = false ∧ (∀ e, d ≠ .slice e) ∧ (∀ k, d ≠ .int k) ∧ d ≠ .string
  | _, _ => False

def Z.rel : Z → Value → Prop
  | .d x, v => ∀ w ok, DRel w ok x v
  | .nils _, v => v = .slice none 0 0

structure TyAt (P : Program) (t : Nat) (i : TI) (info : TypeInfo) (d : TypeDesc) (z : Value) : Prop where
  inf : P.info? t = some info
  size : info.size = i.size
  bytes : info.bytes = i.bytes
  und : P.underlying t = some d
  kind : kindOK d i.kind
  zero : info.zero = some z
  zrel : Rel2 Z.rel i.zero z.cells.toList
  zone : ∀ x ∈ i.zero, ∀ y, x = .d y → y.one = true
  eqs : ∀ fs, d = .struct fs → P.stoodInHeld t = false ∧ P.eqGuardType P.depth t = false ∧ ∀ f ∈ fs.toList, f.name ≠ "_"

def TyOK (P : Program) (T : Tys) : Prop := ∀ t i, T t = some i → ∃ info d z, TyAt P t i info d z

section
variable {P : Program} {w : World} {t : Nat} {i : TI} {info : TypeInfo} {d : TypeDesc} {z : Value}

theorem TyAt.run_sizeOf (h : TyAt P t i info d z) : (sizeOf t).run P w = .ok i.size w := by
  simp [sizeOf, typeInfo, h.inf, h.size]
theorem TyAt.run_typeInfo (h : TyAt P t i info d z) : (typeInfo t).run P w = .ok info w := by
  simp [typeInfo, h.inf]
theorem TyAt.run_und (h : TyAt P t i info d z) : (underlying t).run P w = .ok d w := run_underlying h.und w
theorem TyAt.run_zero (h : TyAt P t i info d z) : (zeroValue t).run P w = .ok z w := by
  simp [zeroValue, typeInfo, h.inf, h.zero]

theorem kindOK_struct {l : List (Nat × Nat)} (h : kindOK d (.struct l)) : ∃ fs, d = .struct fs ∧ fs.toList.map (fun f => (f.offset, f.type)) = l := by
  cases d <;> simp [kindOK] at h; exact ⟨_, rfl, h⟩
theorem kindOK_slice {e : Nat} (h : kindOK d (.slice e)) : d = .slice e := by
  cases d <;> simp [kindOK] at h; subst h; rfl
theorem kindOK_int {k : IntKind} (h : kindOK d (.int k)) : d = .int k := by
  cases d <;> simp [kindOK] at h; subst h; rfl
theorem kindOK_str (h : kindOK d .str) : d = .string := by cases d <;> simp [kindOK] at h; rfl

def TK.isRow : TK → Bool
  | .struct _ => true
  | _ => false

theorem kindOK_row {k : TK} (h : kindOK d k) : d.isRow = k.isRow := by
  cases k <;> cases d <;> first | rfl | (simp [kindOK, TypeDesc.isRow] at h; done) | (simp [kindOK, TypeDesc.isRow] at h ⊢; simp [TK.isRow]; done)

theorem TyAt.run_isAgg (h : TyAt P t i info d z) : (isAgg t).run P w = .ok i.kind.isRow w := by
  have := kindOK_row h.kind
  unfold isAgg
  rw [Sem.run_bind, h.run_und, ← this]
  cases d <;> rfl
end

theorem sizeOfT_pos {P : Program} {T : Tys} (hT : TyOK P T) {t : Nat} (h : 0 < sizeOfT T t) : ∃ i info d z, T t = some i ∧ TyAt P t i info d z ∧ sizeOfT T t = i.size := by
  unfold sizeOfT at h ⊢
  cases hi : T t with
  | none => simp [hi] at h
  | some i => obtain ⟨info, d, z, ha⟩ := hT t i hi; exact ⟨i, info, d, z, rfl, ha, rfl⟩

theorem isStruct_kind {T : Tys} {t : Nat} {i : TI} (h : T t = some i) : isStruct T t = i.kind.isRow := by
  unfold isStruct; rw [h]; obtain ⟨a, b, k, z⟩ := i; cases k <;> rfl

theorem elemT_some {T : Tys} {t e : Nat} (h : elemT T t = some e) : ∃ i, T t = some i ∧ i.kind = .slice e := by
  unfold elemT at h
  split at h
  · rename_i a b e' z hi; simp at h; subst h; exact ⟨_, hi, rfl⟩
  · simp at h

/-! ### cells of values -/

section
variable {w : World} {ok : Nat → Prop} {lam : Nat → Option Nat} {H : Heap}

theorem ofD_agg {ds : List D} {v : Value} (h : DRel w ok (.agg ds) v) : ∃ cs, v = .agg ⟨cs⟩ ∧ Rel2 (DRel w ok) ds cs := by
  cases h with | agg _ vs hl hd => exact ⟨vs, rfl, hl, hd⟩

theorem DRel.one {x : D} {v : Value} (h : DRel w ok x v) (h1 : x.one = true) : v.oneCell' = true := by
  cases h <;> first | rfl | (simp [D.one] at h1)

theorem VRel.one {x : V} {v : Value} (h : VRel w ok lam H x v) (h1 : x.one = true) : v.oneCell' = true := by
  cases h with
  | d h => exact h.one h1
  | ref h2 => obtain ⟨A, rfl⟩ := h2; rfl
  | el h2 => obtain ⟨A, rfl⟩ := h2; rfl
  | own h2 => obtain ⟨A, l, c, rfl⟩ := h2; rfl
  | nils => rfl
  | agg => simp [V.one] at h1
  | tup => simp [V.one] at h1
  | clo => rfl
  | dead => simp [V.one] at h1
end

end Go.Rx
