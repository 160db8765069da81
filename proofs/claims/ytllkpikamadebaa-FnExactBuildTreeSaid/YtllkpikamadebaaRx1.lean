/-
  Part 1: an evaluator over plain data of the model's code with its proof, plain laws on lists and numbers, and contracts of functions of the program; each lemma names its conditions.
-/
import Derived.Orders
import Derived.Below
import Derived.Laws.IdiomCopy
import Derived.Laws.Rows
import Derived.Laws.OwnMore
import Derived.Laws.MakeOwn
import Derived.Deep.MidRow
import Derived.ChangeKeysEq
import Derived.Laws.StructEq
import Derived.Lib.ConvBytes
import Derived.Laws.IdiomStrings
import Derived.Laws.Tables
import Derived.Deep.AppendSrc

set_option linter.unusedSimpArgs false
set_option linter.unusedVariables false

namespace Go.Rx
open Go Go.RowKit

/-! ### data, values, objects -/

inductive D where
  | int (k : IntKind) (n : Int)
  | bool (b : Bool)
  | str (s : List UInt8)
  | sl (xs : List (List D))
  | agg (cs : List D)
  | ptr (cs : List D)
  | clo (f : FuncId) (cs : List D)
  | nilp
  | und

instance : Inhabited D := ⟨.und⟩

def MAX : Nat := 140737488355328
/-- How long a string or a slice may be that is handed in. -/
def LEN : Nat := 9223372036854775807

inductive DRel (w : World) (ok : Nat → Prop) : D → Value → Prop
  | int (k : IntKind) (n : Int) : DRel w ok (.int k n) (.int k n)
  | bool (b : Bool) : DRel w ok (.bool b) (.bool b)
  | str (s : List UInt8) (h : s.length ≤ LEN) : DRel w ok (.str s) (.string ⟨⟨s⟩⟩)
  | sl0 (A : Option Addr) (c : Nat) : DRel w ok (.sl []) (.slice A 0 c)
  | sl (xs : List (List D)) (m b o cap : Nat) (vs : Nat → Value) (hc : xs.length ≤ cap) (hm : xs.length ≤ LEN) (hb : ok b) (hl : ∀ e ∈ xs, e.length = m)
      (hv : ∀ (i : Nat) e (j : Nat) d, xs[i]? = some e → e[j]? = some d → w.cell? ⟨b, o + (i * m + j), none⟩ = some (vs (i * m + j)))
      (hd : ∀ (i : Nat) e (j : Nat) d, xs[i]? = some e → e[j]? = some d → DRel w ok d (vs (i * m + j))) :
      DRel w ok (.sl xs) (.slice (some ⟨b, o, none⟩) xs.length cap)
  | agg (cs : List D) (vs : List Value) (hl : cs.length = vs.length) (hd : ∀ (i : Nat) d v, cs[i]? = some d → vs[i]? = some v → DRel w ok d v) :
      DRel w ok (.agg cs) (.agg ⟨vs⟩)
  | ptr (cs : List D) (b o : Nat) (vs : Nat → Value) (hb : ok b) (hv : ∀ (j : Nat) d, cs[j]? = some d → w.cell? ⟨b, o + j, none⟩ = some (vs j))
      (hd : ∀ (j : Nat) d, cs[j]? = some d → DRel w ok d (vs j)) : DRel w ok (.ptr cs) (.pointer (some ⟨b, o, none⟩))
  | clo (f : FuncId) (cs : List D) (vs : List Value) (hl : cs.length = vs.length) (hd : ∀ (i : Nat) d v, cs[i]? = some d → vs[i]? = some v → DRel w ok d v) :
      DRel w ok (.clo f cs) (.func (.func f) #[] ⟨vs⟩)
  | nilp : DRel w ok .nilp (.pointer none)
  | und : DRel w ok .und undef

theorem DRel.mono {w w' : World} {ok ok' : Nat → Prop} {d : D} {v : Value} (h : DRel w ok d v)
    (hw : ∀ b, ok b → w'.heap[b]? = w.heap[b]?) (hok : ∀ b, ok b → ok' b) : DRel w' ok' d v := by
  induction h with
  | int k n => exact .int k n
  | bool b => exact .bool b
  | str s h => exact .str s h
  | sl0 A c => exact .sl0 A c
  | sl xs m b o cap vs hc hm hb hl hv hd ih =>
    exact .sl xs m b o cap vs hc hm (hok b hb) hl (fun i e j d h1 h2 => (World.cell?_of_block (w := w) (hw b hb)).trans (hv i e j d h1 h2)) ih
  | agg cs vs hl hd ih => exact .agg cs vs hl ih
  | ptr cs b o vs hb hv hd ih => exact .ptr cs b o vs (hok b hb) (fun j d h1 => (World.cell?_of_block (w := w) (hw b hb)).trans (hv j d h1)) ih
  | clo f cs vs hl hd ih => exact .clo f cs vs hl ih
  | nilp => exact .nilp
  | und => exact .und

inductive V where
  | d (x : D)
  | ref (n off : Nat)
  | el (n i j : Nat)
  | own (n off len : Nat)
  | nils
  | agg (vs : List V)
  | tup (vs : List V)
  | clo (f : FuncId) (vs : List V)
  | dead

instance : Inhabited V := ⟨.dead⟩

inductive AObj where
  | box (cells : List V)
  | arr (m : Nat) (xs : List (List D))

/-- What a slice over an array of our own reads as. -/
def OwnV (w : World) (lam : Nat → Option Nat) (n m : Nat) (xs : List (List D)) (off len : Nat) (v : Value) : Prop :=
  off + len ≤ xs.length ∧
  ((lam n = none ∧ v = .slice none 0 0 ∧ len = 0) ∨
   ∃ b o cap cs T fr, lam n = some b ∧ v = .slice (some ⟨b, o, none⟩) len cap ∧ len ≤ cap ∧ (cap = 0 ∨ o = off * m) ∧
     w.heap[b]? = some (.cells cs T fr) ∧ (off + cap) * m ≤ cs.size)

inductive VRel (w : World) (ok : Nat → Prop) (lam : Nat → Option Nat) (H : Nat → Option AObj) : V → Value → Prop
  | d {x : D} {v : Value} (h : DRel w ok x v) : VRel w ok lam H (.d x) v
  | ref {n off : Nat} {v : Value} (h1 : ∃ A, v = .pointer A) (h : ∀ o, H n = some o → ∃ b, lam n = some b ∧ v = .pointer (some ⟨b, off, none⟩)) : VRel w ok lam H (.ref n off) v
  | el {n i j : Nat} {v : Value} (h1 : ∃ A, v = .pointer A) (h : ∀ m xs, H n = some (.arr m xs) → i < xs.length ∧ ∃ b, lam n = some b ∧ v = .pointer (some ⟨b, i * m + j, none⟩)) : VRel w ok lam H (.el n i j) v
  | own {n off len : Nat} {v : Value} (h1 : ∃ A l c, v = .slice A l c) (h : ∀ m xs, H n = some (.arr m xs) → OwnV w lam n m xs off len v) : VRel w ok lam H (.own n off len) v
  | nils : VRel w ok lam H .nils (.slice none 0 0)
  | agg {cs : List V} {vs : List Value} (hl : cs.length = vs.length) (hd : ∀ (i : Nat) d v, cs[i]? = some d → vs[i]? = some v → VRel w ok lam H d v) :
      VRel w ok lam H (.agg cs) (.agg ⟨vs⟩)
  | tup {cs : List V} {vs : List Value} (hl : cs.length = vs.length) (hd : ∀ (i : Nat) d v, cs[i]? = some d → vs[i]? = some v → VRel w ok lam H d v) :
      VRel w ok lam H (.tup cs) (.tuple ⟨vs⟩)
  | clo {f : FuncId} {cs : List V} {vs : List Value} (hl : cs.length = vs.length) (hd : ∀ (i : Nat) d v, cs[i]? = some d → vs[i]? = some v → VRel w ok lam H d v) :
      VRel w ok lam H (.clo f cs) (.func (.func f) #[] ⟨vs⟩)
  | dead {v : Value} : VRel w ok lam H .dead v

/-- All names of a value have p. -/
inductive VGood (p : Nat → Prop) : V → Prop
  | d (x : D) : VGood p (.d x)
  | ref {n off : Nat} (h : p n) : VGood p (.ref n off)
  | el {n i j : Nat} (h : p n) : VGood p (.el n i j)
  | own {n off len : Nat} (h : p n) : VGood p (.own n off len)
  | nils : VGood p .nils
  | agg {cs : List V} (h : ∀ v ∈ cs, VGood p v) : VGood p (.agg cs)
  | tup {cs : List V} (h : ∀ v ∈ cs, VGood p v) : VGood p (.tup cs)
  | clo {f : FuncId} {cs : List V} (h : ∀ v ∈ cs, VGood p v) : VGood p (.clo f cs)
  | dead : VGood p .dead

def OGood (p : Nat → Prop) : AObj → Prop
  | .box cells => ∀ v ∈ cells, VGood p v
  | .arr _ _ => True

theorem VGood.mono {p q : Nat → Prop} {v : V} (h : VGood p v) (hpq : ∀ n, p n → q n) : VGood q v := by
  induction h with
  | d x => exact .d x
  | ref h => exact .ref (hpq _ h)
  | el h => exact .el (hpq _ h)
  | own h => exact .own (hpq _ h)
  | nils => exact .nils
  | agg h ih => exact .agg ih
  | tup h ih => exact .tup ih
  | clo h ih => exact .clo ih
  | dead => exact .dead

theorem OGood.mono {p q : Nat → Prop} {o : AObj} (h : OGood p o) (hpq : ∀ n, p n → q n) : OGood q o := by
  cases o with
  | box cells => exact fun v hv => (h v hv).mono hpq
  | arr m xs => trivial

/-- Where the heap of names changes: names that a value bears either are gone or are as they were (an array may hold other elements, as many), a box stays a box. -/
theorem VRel.mono {w w' : World} {ok ok' : Nat → Prop} {lam lam' : Nat → Option Nat} {H H' : Nat → Option AObj} {p : Nat → Prop} {x : V} {v : Value}
    (h : VRel w ok lam H x v) (hg : VGood p x)
    (hw : ∀ b, ok b → w'.heap[b]? = w.heap[b]?) (hok : ∀ b, ok b → ok' b)
    (hl : ∀ n, p n → H' n ≠ none → lam' n = lam n)
    (hbox : ∀ n, p n → ∀ c', H' n = some (.box c') → ∃ c, H n = some (.box c))
    (harr : ∀ n, p n → ∀ m xs', H' n = some (.arr m xs') → ∃ xs, H n = some (.arr m xs) ∧ xs.length = xs'.length)
    (hsz : ∀ n b cs T fr m xs', p n → H' n = some (.arr m xs') → lam n = some b → w.heap[b]? = some (.cells cs T fr) → ∃ cs' T' fr', w'.heap[b]? = some (.cells cs' T' fr') ∧ cs'.size = cs.size) :
    VRel w' ok' lam' H' x v := by
  induction h with
  | d h => exact .d (h.mono hw hok)
  | ref h1 h =>
    cases hg with | ref hp =>
    refine .ref h1 fun o ho => ?_
    have hl' := hl _ hp (by rw [ho]; simp)
    cases o with
    | box c' => obtain ⟨c, hc⟩ := hbox _ hp c' ho; obtain ⟨b, hb, hv⟩ := h _ hc; exact ⟨b, hl'.trans hb, hv⟩
    | arr m xs' => obtain ⟨xs, hx, _⟩ := harr _ hp m xs' ho; obtain ⟨b, hb, hv⟩ := h _ hx; exact ⟨b, hl'.trans hb, hv⟩
  | el h1 h =>
    cases hg with | el hp =>
    refine .el h1 fun m xs' ho => ?_
    have hl' := hl _ hp (by rw [ho]; simp)
    obtain ⟨xs, hx, hlen⟩ := harr _ hp m xs' ho
    obtain ⟨hi, b, hb, hv⟩ := h _ _ hx
    exact ⟨hlen ▸ hi, b, hl'.trans hb, hv⟩
  | own h1 h =>
    cases hg with | own hp =>
    refine .own h1 fun m xs' ho => ?_
    have hl' := hl _ hp (by rw [ho]; simp)
    obtain ⟨xs, hx, hlen⟩ := harr _ hp m xs' ho
    obtain ⟨hle, hcase⟩ := h m xs hx
    refine ⟨hlen ▸ hle, ?_⟩
    rcases hcase with ⟨g1, h2, h3⟩ | ⟨b, o, cap, cs, T, fr, g1, h2, h3, h4, h5, h6⟩
    · exact .inl ⟨hl'.trans g1, h2, h3⟩
    · obtain ⟨cs', T', fr', h7, h8⟩ := hsz _ b cs T fr m xs' hp ho g1 h5
      exact .inr ⟨b, o, cap, cs', T', fr', hl'.trans g1, h2, h3, h4, h7, by rw [h8]; exact h6⟩
  | nils => exact .nils
  | agg hl hd ih =>
    cases hg with | agg hp =>
    exact .agg hl fun i d v h1 h2 => ih i d v h1 h2 (hp _ (List.mem_of_getElem? h1))
  | tup hl hd ih =>
    cases hg with | tup hp =>
    exact .tup hl fun i d v h1 h2 => ih i d v h1 h2 (hp _ (List.mem_of_getElem? h1))
  | clo hl hd ih =>
    cases hg with | clo hp =>
    exact .clo hl fun i d v h1 h2 => ih i d v h1 h2 (hp _ (List.mem_of_getElem? h1))
  | dead => exact .dead

def ObjRel (w : World) (ok : Nat → Prop) (lam : Nat → Option Nat) (H : Nat → Option AObj) (n : Nat) : AObj → Prop
  | .box cells => ∃ b cs T, lam n = some b ∧ w.heap[b]? = some (.cells cs T (0, 0)) ∧ cells.length = cs.size ∧
      ∀ (i : Nat) v c, cells[i]? = some v → cs[i]? = some c → VRel w ok lam H v c
  | .arr m xs => (∀ e ∈ xs, e.length = m) ∧ xs.length ≤ MAX ∧
      ((lam n = none ∧ xs = []) ∨
       ∃ b cs T fr, lam n = some b ∧ w.heap[b]? = some (.cells cs T fr) ∧ (∀ i, i < cs.size → w.frozen? ⟨b, i, none⟩ = false) ∧ xs.length * m ≤ cs.size ∧
         ∀ (i : Nat) e (j : Nat) d, xs[i]? = some e → e[j]? = some d → ∃ c, cs[i * m + j]? = some c ∧ DRel w ok d c)

structure HOK (w : World) (ok : Nat → Prop) (lam : Nat → Option Nat) (H : Nat → Option AObj) : Prop where
  inj : ∀ n n' b, H n ≠ none → H n' ≠ none → lam n = some b → lam n' = some b → n = n'
  lt : ∀ n b, H n ≠ none → lam n = some b → b < w.heap.size
  dis : ∀ n b, H n ≠ none → lam n = some b → ¬ ok b
  oklt : ∀ b, ok b → b < w.heap.size
  obj : ∀ n o, H n = some o → ObjRel w ok lam H n o

/-- Blocks of cells keep their size. -/
def Sized (w w' : World) : Prop := ∀ (k : Nat) (cs : Array Value) (T : TypeId) (fr : Nat × Nat), w.heap[k]? = some (.cells cs T fr) →
  ∃ (cs' : Array Value) (T' : TypeId) (fr' : Nat × Nat), w'.heap[k]? = some (.cells cs' T' fr') ∧ cs'.size = cs.size

/-- The world behind a step: what is not ours is as it was. -/
structure Fr (U : Nat → Prop) (w w' : World) : Prop where
  os : w'.os = w.os
  tape : w'.tape = w.tape
  output : w'.output = w.output
  size : w.heap.size ≤ w'.heap.size
  block : ∀ k, k < w.heap.size → ¬ U k → w'.heap[k]? = w.heap[k]?
  sized : Sized w w'

theorem lt_of_some {w : World} {k : Nat} {o : Obj} (h : w.heap[k]? = some o) : k < w.heap.size := (Array.getElem?_eq_some_iff.1 h).1

/-- Blocks that are as they were have as many cells. -/
theorem sized_same {w w' : World} (h : ∀ k, k < w.heap.size → w'.heap[k]? = w.heap[k]?) : Sized w w' :=
  fun k cs T fr e => ⟨cs, T, fr, (h k (lt_of_some e)).trans e, rfl⟩

theorem Sized.trans {a b c : World} (h : Sized a b) (k : Sized b c) : Sized a c := fun i cs T fr e => by
  obtain ⟨cs', T', fr', e', h1⟩ := h i cs T fr e
  obtain ⟨cs2, T2, fr2, e2, h2⟩ := k i cs' T' fr' e'
  exact ⟨cs2, T2, fr2, e2, h2.trans h1⟩

/-- One block has other cells, as many. -/
theorem sized_one {w w' : World} {b : Nat} {cb : Array Value} {Tb : TypeId} {fb : Nat × Nat} (hb : w'.heap[b]? = some (.cells cb Tb fb)) (hs : ∀ (cs : Array Value) (T : TypeId) (fr : Nat × Nat), w.heap[b]? = some (.cells cs T fr) → cb.size = cs.size)
    (h : ∀ k, k < w.heap.size → k ≠ b → w'.heap[k]? = w.heap[k]?) : Sized w w' := fun k cs T fr e => by
  by_cases hk : k = b
  · subst hk; exact ⟨cb, Tb, fb, hb, hs cs T fr e⟩
  · exact ⟨cs, T, fr, (h k (lt_of_some e) hk).trans e, rfl⟩

theorem Fr.refl (U : Nat → Prop) (w : World) : Fr U w w := ⟨rfl, rfl, rfl, Nat.le_refl _, fun _ _ _ => rfl, sized_same fun _ _ => rfl⟩

end Go.Rx

namespace Go.Rx
open Go Go.RowKit

/-! ### types, told by a table -/

inductive Z where
  | d (x : D)
  | nils (m : Nat)

inductive TK where
  | int (k : IntKind) | bool | str | ptr | slice (e : Nat) | struct (fs : List (Nat × Nat)) | other

structure TI where
  size : Nat
  bytes : Nat
  kind : TK
  zero : List Z

abbrev Tys := Nat → Option TI
abbrev Heap := Nat → Option AObj
abbrev Upd := List (Nat × Option AObj)

structure St where
  env : List (Nat × V)
  H : Upd

def eget : List (Nat × V) → Nat → V
  | [], _ => .dead
  | (k, v) :: l, t => bif k == t then v else eget l t

def hget : List (Nat × AObj) → Nat → Option AObj
  | [], _ => none
  | (k, o) :: l, n => bif k == n then some o else hget l n

def uget : Upd → Nat → Option AObj
  | [], _ => none
  | (k, o) :: l, n => bif k == n then o else uget l n

def D.one : D → Bool
  | .agg _ | .und => false
  | _ => true

def V.one : V → Bool
  | .agg _ | .tup _ | .dead => false
  | .d x => x.one
  | _ => true

/-- The cells of a value that may be stored. -/
def V.cells : V → Option (List V)
  | .agg vs => some vs
  | .d (.agg ds) => some (ds.map .d)
  | .dead | .tup _ | .d .und => none
  | v => some [v]

/-! ### constants -/

def ofCell : Value → V
  | .int k n => .d (.int k n)
  | .bool b => .d (.bool b)
  | .string s => bif s.data.toList.length.ble 4096 then .d (.str s.data.toList) else .dead
  | .pointer none => .d .nilp
  | .slice none 0 0 => .nils
  | _ => .dead

def ofVal : Value → V
  | .agg cs => .agg (cs.toList.map ofCell)
  | .tuple cs => .tup (cs.toList.map ofCell)
  | v => ofCell v

def ev (env : List (Nat × V)) : Operand → V
  | .tmp t => eget env t
  | .const v => ofVal v
  | .global _ => .dead
  | .func f => .d (.clo f [])

/-! ### reading as data -/

def cD (h : Heap) : V → Option (D × List Nat)
  | .d x => some (x, [])
  | .nils => some (.sl [], [])
  | .own n off len => match h n with
    | some (.arr _ xs) => some (.sl ((xs.drop off).take len), [n])
    | _ => none
  | _ => none

def cDs (h : Heap) : List V → Option (List D × List Nat)
  | [] => some ([], [])
  | v :: vs => match cD h v, cDs h vs with
    | some (x, l), some (xs, ls) => some (x :: xs, l ++ ls)
    | _, _ => none

def toP (h : Heap) : V → Option (D × List Nat)
  | .ref n off => match h n with
    | some (.box cells) => match cDs h cells with
      | some (ds, ls) => some (.ptr (ds.drop off), n :: ls)
      | none => none
    | _ => none
  | v => cD h v

def toPs (h : Heap) : List V → Option (List D × List Nat)
  | [] => some ([], [])
  | v :: vs => match toP h v, toPs h vs with
    | some (x, l), some (xs, ls) => some (x :: xs, l ++ ls)
    | _, _ => none

def toD (h : Heap) : V → Option (D × List Nat)
  | .agg vs => match cDs h vs with
    | some (ds, ls) => some (.agg ds, ls)
    | none => none
  | .clo f vs => match toPs h vs with
    | some (ds, ls) => some (.clo f ds, ls)
    | none => none
  | v => cD h v

/-! ### renaming -/

def renC (r : Nat → Option Nat) : V → V
  | .ref n off => match r n with | some k => .ref k off | none => .dead
  | .el n i j => match r n with | some k => .el k i j | none => .dead
  | .own n off len => match r n with | some k => .own k off len | none => .dead
  | .d x => .d x
  | .nils => .nils
  | _ => .dead

def renA (r : Nat → Option Nat) : V → V
  | .agg vs => .agg (vs.map (renC r))
  | .clo f vs => .clo f (vs.map (renC r))
  | v => renC r v

def renV (r : Nat → Option Nat) : V → V
  | .tup vs => .tup (vs.map (renA r))
  | v => renA r v

def renO (r : Nat → Option Nat) : AObj → AObj
  | .box cells => .box (cells.map (renC r))
  | .arr m xs => .arr m xs

def idx : List Nat → Nat → Option Nat
  | [], _ => none
  | m :: l, n => bif m == n then some 0 else (idx l n).map (· + 1)

def nodup : List Nat → Bool
  | [] => true
  | n :: l => !(l.contains n) && nodup l

def refC : V → List Nat
  | .ref n _ | .el n _ _ | .own n _ _ => [n]
  | _ => []

def refA : V → List Nat
  | .agg vs | .clo _ vs => vs.flatMap refC
  | v => refC v

def refV : V → List Nat
  | .tup vs => vs.flatMap refA
  | v => refA v

def refO (h : Heap) (n : Nat) : List Nat :=
  match h n with
  | some (.box cells) => n :: cells.flatMap refC
  | some (.arr _ _) => [n]
  | none => []

def dd : List Nat → List Nat → List Nat
  | acc, [] => acc.reverse
  | acc, n :: l => bif acc.contains n then dd acc l else dd (n :: acc) l

/-- The names that values lead to, each once, in order. -/
def order (h : Heap) (vs : List V) : List Nat := dd [] (((vs.flatMap refV).flatMap (refO h)).flatMap (refO h))

def objs (h : Heap) (r : Nat → Option Nat) : Nat → List Nat → List (Nat × AObj)
  | _, [] => []
  | k, n :: l => match h n with
    | some o => (k, renO r o) :: objs h r (k + 1) l
    | none => objs h r (k + 1) l

/-! ### preparing a state: what is kept, in this order; names anew -/

/-- Names, if there are not too many. -/
def cap (l : List Nat) : List Nat := bif decide (l.length < 1000) then l else []

def prep (keep : List Nat) (s : St) : St :=
  let vs := keep.map (eget s.env)
  let o := cap (order (uget s.H) vs)
  { env := keep.zip (vs.map (renV (idx o))), H := (objs (uget s.H) (idx o) 0 o).map fun p => (p.1, some p.2) }

/-! ### operations -/

def sizeOfT (T : Tys) (t : Nat) : Nat := match T t with | some i => i.size | none => 0
def isStruct (T : Tys) (t : Nat) : Bool := match T t with | some ⟨_, _, .struct _, _⟩ => true | _ => false
def known (T : Tys) (t : Nat) : Bool := match T t with | some _ => true | none => false
def elemT (T : Tys) (t : Nat) : Option Nat := match T t with | some ⟨_, _, .slice e, _⟩ => some e | _ => none

def ownNil (T : Tys) (tb ty : Nat) : V → V × Upd
  | .nils => match elemT T ty with
    | some e => (.own tb 0 0, [(tb, some (.arr (sizeOfT T e) []))])
    | none => (.nils, [])
  | v => (v, [])

def mkBox (tb : Nat) : Nat → List V → List Z → List V × Upd
  | _, [], _ => ([], [])
  | k, v :: vs, zs =>
    let r := mkBox tb (k + 1) vs (zs.drop 1)
    match v, zs with
    | .nils, .nils m :: _ => (.own (tb + 1 + k) 0 0 :: r.1, (tb + 1 + k, some (.arr m [])) :: r.2)
    | v, _ => (v :: r.1, r.2)

def zeroV : List Z → List V
  | [] => []
  | .d x :: l => .d x :: zeroV l
  | .nils _ :: l => .nils :: zeroV l

def zeroD : List Z → List D
  | [] => []
  | .d x :: l => x :: zeroD l
  | .nils _ :: l => .sl [] :: zeroD l

def setAt (cs : List V) (off : Nat) (vs : List V) : List V := cs.take off ++ vs ++ cs.drop (off + vs.length)

def loadC (T : Tys) (t : Nat) (cs : List V) (off : Nat) : V :=
  bif isStruct T t then .agg ((cs.drop off).take (sizeOfT T t)) else (match cs.drop off with | v :: _ => v | [] => .dead)

def fieldOff (T : Tys) (t f : Nat) : Option (Nat × Nat) := match T t with
  | some ⟨_, _, .struct fs, _⟩ => fs[f]?
  | _ => none

def eqT : TK → D → D → Option Bool
  | .int _, .int k a, .int k' b => if k = k' then some (decide (a = b)) else none
  | .bool, .bool a, .bool b => some (a == b)
  | .str, .str a, .str b => some (decide (a = b))
  | _, _, _ => none

def kindT (T : Tys) (t : Nat) : TK := match T t with | some i => i.kind | none => .other

def eqO : TK → Option D → Option D → Option Bool
  | k, some x, some y => eqT k x y
  | _, _, _ => none

def andO : Option Bool → Option Bool → Option Bool
  | some a, some b => some (a && b)
  | _, _ => none

def eqFs (T : Tys) : List (Nat × Nat) → List D → List D → Option Bool
  | [], _, _ => some true
  | (off, ft) :: fs, xs, ys => andO (eqO (kindT T ft) xs[off]? ys[off]?) (eqFs T fs xs ys)

/-- Cells of a struct as scalars. -/
def scalL : List V → Option (List D)
  | [] => some []
  | .d x :: vs => (scalL vs).map (x :: ·)
  | _ => none

def scal : V → Option (List D)
  | .agg vs => scalL vs
  | .d (.agg ds) => some ds
  | _ => none

def bLess : List UInt8 → List UInt8 → Bool := Op.bytesLess

abbrev OK := V → Upd → Prop

/-- A condition, and what stands behind it. -/
def Req (p q : Prop) : Prop := p ∧ q
/-- Two ways. -/
def Way (b : Bool) (p q : Prop) : Prop := (b = true → p) ∧ (b = false → q)
def WayG (b want : Bool) (p q : Prop) : Prop := (b = want → p) ∧ (b = !want → q)

/-! Small steps, each looking at its own arguments alone. -/

def onSome {α : Type} : Option α → (α → Prop) → Prop
  | some x, K => K x
  | none, _ => False

def onBox : Option AObj → (List V → Prop) → Prop
  | some (.box cs), K => K cs
  | _, _ => False

def onArr : Option AObj → (Nat → List (List D) → Prop) → Prop
  | some (.arr m xs), K => K m xs
  | _, _ => False

def onObj : Option AObj → Prop → Prop
  | some _, K => K
  | none, _ => False

def onInt : V → (IntKind → Int → Prop) → Prop
  | .d (.int k n), K => K k n
  | _, _ => False

def intVC (op : BinOp) (k : IntKind) (a b : Int) (K : OK) : Prop := match op with
  | .add => K (.d (.int k (k.wrap (a + b)))) []
  | .sub => K (.d (.int k (k.wrap (a - b)))) []
  | .mul => K (.d (.int k (k.wrap (a * b)))) []
  | .quo => Req (b ≠ 0) (K (.d (.int k (k.wrap (a.tdiv b)))) [])
  | .rem => Req (b ≠ 0) (K (.d (.int k (a.tmod b))) [])
  | .and => K (.d (.int k (k.wrap (BitVec.ofInt k.bits a &&& BitVec.ofInt k.bits b).toNat))) []
  | .or => K (.d (.int k (k.wrap (BitVec.ofInt k.bits a ||| BitVec.ofInt k.bits b).toNat))) []
  | .xor => K (.d (.int k (k.wrap (BitVec.ofInt k.bits a ^^^ BitVec.ofInt k.bits b).toNat))) []
  | .shl => Req (0 ≤ b) (K (.d (.int k (k.wrap (a * 2 ^ min b.toNat k.bits)))) [])
  | .shr => Req (0 ≤ b) (K (.d (.int k (a.fdiv (2 ^ min b.toNat k.bits)))) [])
  | .eql => K (.d (.bool (decide (a = b)))) []
  | .neq => K (.d (.bool (!decide (a = b)))) []
  | .lss => K (.d (.bool (decide (a < b)))) []
  | .leq => K (.d (.bool (decide (a ≤ b)))) []
  | .gtr => K (.d (.bool (decide (b < a)))) []
  | .geq => K (.d (.bool (decide (b ≤ a)))) []
  | _ => False

def strVC (op : BinOp) (a b : List UInt8) (K : OK) : Prop := match op with
  | .add => Req (a.length + b.length ≤ LEN) (K (.d (.str (a ++ b))) [])
  | .eql => K (.d (.bool (decide (a = b)))) []
  | .neq => K (.d (.bool (!decide (a = b)))) []
  | .lss => K (.d (.bool (bLess a b))) []
  | .leq => K (.d (.bool (!bLess b a))) []
  | .gtr => K (.d (.bool (bLess b a))) []
  | .geq => K (.d (.bool (!bLess a b))) []
  | _ => False

def isShift : BinOp → Bool
  | .shl | .shr => true
  | _ => false

def eqlVC (op : BinOp) (b : Bool) (K : OK) : Prop := match op with
  | .eql => K (.d (.bool b)) []
  | .neq => K (.d (.bool (!b))) []
  | _ => False

def aggVC (T : Tys) (op : BinOp) : TK → Option (List D) → Option (List D) → OK → Prop
  | .struct fs, some xs, some ys, K => onSome (eqFs T fs xs ys) fun b => eqlVC op b K
  | _, _, _, _ => False

def ptrVC (op : BinOp) (b : Bool) : TK → OK → Prop
  | .ptr, K => eqlVC op b K
  | _, _ => False

def binVC (T : Tys) (t : Nat) (op : BinOp) : V → V → OK → Prop
  | .d (.int k a), .d (.int k' b), K => Req ((isShift op = true ∨ k = k')) (intVC op k a b K)
  | .d (.str a), .d (.str b), K => strVC op a b K
  | .d (.bool a), .d (.bool b), K => onSome (eqT (kindT T t) (.bool a) (.bool b)) fun b => eqlVC op b K
  | .d .nilp, .d .nilp, K => ptrVC op true (kindT T t) K
  | .d (.ptr _), .d .nilp, K => ptrVC op false (kindT T t) K
  | x, y, K => aggVC T op (kindT T t) (scal x) (scal y) K

def Known (P : Program) (f : FuncId) : Prop := ∃ fn, P.funcs[f]? = some fn ∧ (fn.name == "runtime.NumGoroutine") = false ∧ fn.body.isNone = false

def CallOK (P : Program) (f : FuncId) (args : List V) (H : List (Nat × AObj)) (outs : List V) (res : V) (H' : List (Nat × AObj)) : Prop :=
  Known P f ∧ ∀ (w : World) (vs : List Value) (lam : Nat → Option Nat) (ok : Nat → Prop),
    HOK w ok lam (hget H) → args.length = vs.length → (∀ (i : Nat) x v, args[i]? = some x → vs[i]? = some v → VRel w ok lam (hget H) x v) →
    Calls P f ⟨vs⟩ w fun e w' => ∃ v lam' ok',
      e = .returned v ∧ Fr (fun b => ∃ n, hget H n ≠ none ∧ lam n = some b) w w' ∧ HOK w' ok' lam' (hget H') ∧
      VRel w' ok' lam' (hget H') res v ∧
      (∀ (i : Nat) x v, outs[i]? = some x → vs[i]? = some v → VRel w' ok' lam' (hget H') x v) ∧
      (∀ b, ok' b → ok b ∨ (∃ n, hget H n ≠ none ∧ lam n = some b) ∨ w.heap.size ≤ b) ∧
      (∀ n b, hget H' n ≠ none → lam' n = some b → (∃ n', hget H n' ≠ none ∧ lam n' = some b) ∨ w.heap.size ≤ b)

inductive Arg where
  | dat (x : D)
  | box (n : Nat)
  | own (n off len : Nat)
  | nils

def gatherD (h : Heap) (v : V) (as : List Arg) (ps bs : List Nat) : Option (List Arg × List Nat × List Nat) := match toD h v with
  | some (x, l) => some (.dat x :: as, ps, l ++ bs)
  | none => none

def gather1 (h : Heap) (as : List Arg) (ps bs : List Nat) : Bool → V → Option (List Arg × List Nat × List Nat)
  | _, .ref n 0 => match h n with
    | some (.box _) => some (.box n :: as, refO h n ++ ps, bs)
    | _ => none
  | true, .own n off len => match h n with
    | some (.arr _ _) => some (.own n off len :: as, n :: ps, bs)
    | _ => none
  | true, .nils => some (.nils :: as, ps, bs)
  | _, v => gatherD h v as ps bs

/-- What a call is handed: pointers to boxes of ours are handed on, with what they own; arrays of ours where it is said so; all else is read as data. -/
def gather (h : Heap) : List Bool → List V → Option (List Arg × List Nat × List Nat)
  | _, [] => some ([], [], [])
  | ms, v :: vs => match gather h (ms.drop 1) vs with
    | none => none
    | some (as, ps, bs) => gather1 h as ps bs (ms.headD false) v

def Arg.name? : Arg → Option Nat
  | .box n => some n
  | .own n _ _ => some n
  | _ => none

def argV (ps : List Nat) : Arg → V
  | .dat x => .d x
  | .box n => renC (idx ps) (.ref n 0)
  | .own n off len => renC (idx ps) (.own n off len)
  | .nils => .nils

def backTo : List Arg → List V → Nat → Option Nat
  | .box n :: as, .ref k _ :: os, j => bif k == j then some n else backTo as os j
  | .own n _ _ :: as, .own k _ _ :: os, j => bif k == j then some n else backTo as os j
  | _ :: as, _ :: os, j => backTo as os j
  | _, _, _ => none

def hasKey : List (Nat × AObj) → Nat → Bool
  | [], _ => false
  | (k, _) :: l, n => k == n || hasKey l n

def orElse : Option Nat → Bool → Nat → Option Nat
  | some n, _, _ => some n
  | none, true, k => some k
  | none, false, _ => none

def back (tb : Nat) (as : List Arg) (outs : List V) (H' : List (Nat × AObj)) (j : Nat) : Option Nat :=
  orElse (backTo as outs j) (hasKey H' j) (tb + j)

def isBox : Option AObj → Bool
  | some (.box _) => true
  | _ => false

def isArr : Option AObj → Bool
  | some (.arr _ _) => true
  | _ => false

def outsFit (H' : List (Nat × AObj)) : List Arg → List V → Bool
  | [], [] => true
  | .box _ :: as, .ref k 0 :: os => isBox (hget H' k) && outsFit H' as os
  | .own _ _ _ :: as, .own k _ _ :: os => isArr (hget H' k) && outsFit H' as os
  | .own _ _ _ :: as, .dead :: os => outsFit H' as os
  | .dat _ :: as, _ :: os => outsFit H' as os
  | .nils :: as, _ :: os => outsFit H' as os
  | _, _ => false

def sameLen : Option AObj → Option AObj → Prop
  | some (.arr m xs), some (.arr m' xs') => m = m' ∧ xs.length = xs'.length
  | _, _ => True

/-- Arrays of ours that come back are as long as they were. -/
def ownFit (h : Heap) (H' : List (Nat × AObj)) : List Arg → List V → Prop
  | .own n _ _ :: as, .own k _ _ :: os => sameLen (h n) (hget H' k) ∧ ownFit h H' as os
  | _ :: as, _ :: os => ownFit h H' as os
  | _, _ => True

def smallKeys (H' : List (Nat × AObj)) : Bool := nodup (H'.map (·.1)) && H'.all fun q => Nat.blt q.1 1000

inductive Flat : D → Prop
  | int (k : IntKind) (n : Int) : Flat (.int k n)
  | bool (b : Bool) : Flat (.bool b)
  | str (s : List UInt8) : Flat (.str s)
  | nil : Flat (.sl [])
  | agg {cs : List D} (h : ∀ d ∈ cs, Flat d) : Flat (.agg cs)
  | nilp : Flat .nilp
  | und : Flat .und

inductive FlatV : V → Prop
  | d {x : D} (h : Flat x) : FlatV (.d x)
  | ref (n off : Nat) : FlatV (.ref n off)
  | el (n i j : Nat) : FlatV (.el n i j)
  | own (n off len : Nat) : FlatV (.own n off len)
  | nils : FlatV .nils
  | agg {vs : List V} (h : ∀ v ∈ vs, FlatV v) : FlatV (.agg vs)
  | tup {vs : List V} (h : ∀ v ∈ vs, FlatV v) : FlatV (.tup vs)
  | dead : FlatV .dead

def FlatO : AObj → Prop
  | .box cells => ∀ v ∈ cells, FlatV v
  | .arr _ xs => ∀ e ∈ xs, ∀ d ∈ e, Flat d

def FlatH (H : List (Nat × AObj)) : Prop := ∀ p ∈ H, FlatO p.2

def updOf (tb : Nat) (as : List Arg) (outs : List V) (gone : List Nat) (H' : List (Nat × AObj)) : Upd :=
  gone.map (·, none) ++ H'.map fun p => ((back tb as outs H' p.1).getD 0, some (renO (back tb as outs H') p.2))

def simpleV : V → Bool
  | .agg _ | .tup _ | .clo _ _ => false
  | _ => true
/-- A struct that is handed on by value, cell by cell where it is said so. -/
def flat1 (b : Bool) (v : V) : List V := match b, v with
  | true, .agg cs => bif cs.all simpleV then cs else [.agg cs]
  | _, v => [v]
def grp1 (b : Bool) (v : V) (fl : List V) : V := match b, v with
  | true, .agg cs => bif cs.all simpleV then .agg fl else fl.headD .dead
  | _, _ => fl.headD .dead
def flatA : List Bool → List V → List V
  | [], vs => vs
  | _ :: _, [] => []
  | b :: sh, v :: vs => flat1 b v ++ flatA sh vs
def grpA : List Bool → List V → List V → List V
  | [], _, fl => fl
  | _ :: _, [], _ => []
  | b :: sh, v :: vs, fl => grp1 b v (fl.take (flat1 b v).length) :: grpA sh vs (fl.drop (flat1 b v).length)

def callVC (P : Program) (h : Heap) (tb : Nat) (f : FuncId) (args : List V) (K : OK) : Prop :=
  ∃ sh ms as ps bs outs res H', gather h ms (flatA sh args) = some (as, ps, bs) ∧ (nodup ps && nodup (as.filterMap Arg.name?) && ps.all fun n => !bs.contains n) = true ∧
    CallOK P f (grpA sh args (as.map (argV ps))) (objs h (idx ps) 0 ps) (grpA sh args outs) res H' ∧ (outsFit H' as outs && smallKeys H') = true ∧ ownFit h H' as outs ∧
      (((bs = [] ∨ (FlatV res ∧ FlatH H')) ∧ K (renV (back tb as outs H') res) (updOf tb as outs ps H')) ∨
       K (renV (back tb as outs H') res) (updOf tb as outs (bs ++ ps) H'))

def isStr : Option TI → Bool
  | some ⟨_, _, .str, _⟩ => true
  | _ => false

def isSl : Option TI → Bool
  | some ⟨_, _, .slice _, _⟩ => true
  | _ => false

def lenVC (h : Heap) (t : Option TI) : V → OK → Prop
  | .d (.str s), K => Req (isStr t = true) (K (.d (.int .i64 s.length)) [])
  | .d (.sl xs), K => Req (isSl t = true) (K (.d (.int .i64 xs.length)) [])
  | .own n _ len, K => Req (isSl t = true) (onArr (h n) fun _ _ => K (.d (.int .i64 len)) [])
  | .nils, K => Req (isSl t = true) (K (.d (.int .i64 0)) [])
  | _, _ => False

def fits (e : TI) (n : Nat) (ys : List (List D)) : Prop :=
  e.zero.length = e.size ∧ e.bytes ≤ 4096 ∧ n ≤ 4294967296 ∧ (∀ c ∈ ys, c.length = e.size) ∧ (∀ c ∈ ys, ∀ d ∈ c, d.one = true)

def appTo (h : Heap) (tb : Nat) (e : TI) : V → List (List D) → OK → Prop
  | .own n 0 len, ys, K => onArr (h n) fun m xs => Req (m = e.size) (Req (fits e (len + ys.length) ys) (K (.own tb 0 (len + ys.length)) [(n, none), (tb, some (.arr m (xs.take len ++ ys)))]))
  | .nils, ys, K => Req (fits e ys.length ys) (K (.own tb 0 ys.length) [(tb, some (.arr e.size ys))])
  | _, _, _ => False

def slOf : Option (D × List Nat) → Option (List (List D))
  | some (.sl ys, _) => some ys
  | _ => none

def srcTy (T : Tys) : Option Nat → Bool
  | some t => isSl (T t) || isStr (T t)
  | none => false

def isIntT (T : Tys) : Option Nat → Bool
  | some t => match T t with
    | some ⟨_, _, .int _, _⟩ => true
    | _ => false
  | none => false

/-- append(nil, make([]T, n)...). -/
def appZ (tb : Nat) (e : TI) : V → V → OK → Prop
  | .nils, .d (.int _ n), K => Req (0 < n) (Req (n ≤ 4294967296) (Req (e.bytes ≤ 4096) (Req (e.zero.length = e.size) (K (.own tb 0 n.toNat) [(tb, some (.arr e.size (List.replicate n.toNat (zeroD e.zero))))]))))
  | _, _, _ => False

def Sel (b : Bool) (p q : Prop) : Prop := bif b then p else q

def appendVC (T : Tys) (h : Heap) (tb : Nat) (ty ty2 : Option Nat) (s x : V) (K : OK) : Prop :=
  Sel (isIntT T ty2) (onSome (ty.bind (elemT T)) fun e => onSome (T e) fun i => appZ tb i s x K)
    (Req (srcTy T ty2 = true) (onSome (ty.bind (elemT T)) fun e => onSome (T e) fun i => onSome (slOf (toD h x)) fun ys => appTo h tb i s ys K))

def minMax (isMin : Bool) : V → V → Option V
  | .d (.int k x), .d (.int k' y) => if k = k' then some (.d (.int k (bif isMin then (if y < x then y else x) else (if x < y then y else x)))) else none
  | .d (.str x), .d (.str y) => some (.d (.str (bif isMin then (bif !bLess y x then x else y) else (bif bLess x y then y else x))))
  | _, _ => none

/-- Elements from off on, n of them, become zero. -/
def zeroAt (xs : List (List D)) (off n : Nat) (z : List D) : List (List D) := xs.take off ++ List.replicate n z ++ xs.drop (off + n)

def clearVC (h : Heap) (ti : TI) : V → OK → Prop
  | .own n off len, K => onArr (h n) fun m xs => Req (m = ti.size) (Req (ti.zero.length = ti.size) (K (.tup []) [(n, some (.arr m (zeroAt xs off len (zeroD ti.zero))))]))
  | _, _ => False

def builtinVC (T : Tys) (h : Heap) (tb : Nat) (b : Builtin) (argTypes : List Nat) : List V → OK → Prop
  | [x], K => match b with
    | .len => lenVC h (argTypes.head?.bind T) x K
    | .clear => onSome ((argTypes.head?.bind (elemT T)).bind T) fun ti => clearVC h ti x K
    | _ => False
  | [x, y], K => match b with
    | .append => appendVC T h tb argTypes.head? argTypes[1]? x y K
    | .min => onSome (minMax true x y) fun v => K v []
    | .max => onSome (minMax false x y) fun v => K v []
    | _ => False
  | _, _ => False

def bound : Option V → Int → Option Int
  | none, d => some d
  | some (.d (.int _ n)), _ => some n
  | _, _ => none

def sliceVC (T : Tys) (h : Heap) (t : Nat) : V → Option V → Option V → Option V → OK → Prop
  | .d (.str s), lo, hi, none, K => Req (isStr (T t) = true) (onSome (bound lo 0) fun l => onSome (bound hi s.length) fun h =>
      Req (0 ≤ l) (Req (l ≤ h) (Req (h ≤ s.length) (K (.d (.str ((s.take h.toNat).drop l.toNat))) []))))
  | .d (.sl xs), lo, hi, none, K => onSome (elemT T t) fun e => Req (known T e = true) (Req ((∀ c ∈ xs, c.length = sizeOfT T e)) (onSome (bound lo 0) fun l => onSome (bound hi xs.length) fun h =>
      Req (0 ≤ l) (Req (l ≤ h) (Req (h ≤ xs.length) (K (.d (.sl ((xs.take h.toNat).drop l.toNat))) [])))))
  | .own n off len, lo, hi, none, K => onSome (elemT T t) fun e => onArr (h n) fun m xs => Req (known T e = true) (Req (m = sizeOfT T e) (onSome (bound lo 0) fun l => onSome (bound hi len) fun h =>
      Req (0 ≤ l) (Req (l ≤ h) (Req (h ≤ len) (K (.own n (off + l.toNat) (h.toNat - l.toNat)) [])))))
  | .nils, lo, hi, none, K => onSome (elemT T t) fun e => Req (known T e = true) (onSome (bound lo 0) fun l => onSome (bound hi 0) fun h => Req (l = 0) (Req (h = 0) (K .nils [])))
  | _, _, _, _, _ => False

def lget (xs : List (List D)) (i : Nat) : List D := xs.getD i []

def indexVC (T : Tys) (h : Heap) (e : Option Nat) : V → V → OK → Prop
  | .d (.sl xs), i, K => onSome e fun e => Req (known T e = true) (onInt i fun _ i => Req (0 ≤ i) (Req (i < xs.length) (Req ((lget xs i.toNat).length = sizeOfT T e) (K (.d (.ptr (lget xs i.toNat))) []))))
  | .own n off len, i, K => onSome e fun e => Req (known T e = true) (onInt i fun _ i => onArr (h n) fun m xs => Req (0 ≤ i) (Req (i < len) (Req (off + len ≤ xs.length) (Req (m = sizeOfT T e) (K (.el n (off + i.toNat) 0) [])))))
  | _, _, _ => False

/-- A value is loaded whole: its size fits. -/
def loadOk (T : Tys) (t n : Nat) : Prop := sizeOfT T t ≤ n ∧ 0 < sizeOfT T t ∧ (isStruct T t || sizeOfT T t == 1) = true

def loadVC (T : Tys) (h : Heap) (t : Nat) : V → OK → Prop
  | .ref n off, K => onBox (h n) fun cells => Req (loadOk T t (cells.length - off)) (K (loadC T t cells off) [])
  | .el n i j, K => onArr (h n) fun m xs => Req (i < xs.length) (Req (loadOk T t (m - j)) (K (loadC T t ((lget xs i).map .d) j) []))
  | .d (.ptr cs), K => Req (loadOk T t cs.length) (K (loadC T t (cs.map .d) 0) [])
  | _, _ => False

def storeTo (h : Heap) (tb : Nat) (ti : TI) (vs : List V) : V → OK → Prop
  | .ref n off, K => onBox (h n) fun cells => Req (off + ti.size ≤ cells.length) (K (.d .und) ((mkBox tb 0 vs ti.zero).2 ++ [(n, some (.box (setAt cells off (mkBox tb 0 vs ti.zero).1)))]))
  | .el n i j, K => onArr (h n) fun m xs => onSome (cDs h vs) fun p => Req (i < xs.length) (Req (j + ti.size ≤ m) (Req ((p.2.contains n) = false) (K (.d .und) (p.2.map (·, none) ++ [(n, some (.arr m (xs.set i ((lget xs i).take j ++ p.1 ++ (lget xs i).drop (j + p.1.length)))))]))))
  | _, _ => False

def storeVC (T : Tys) (h : Heap) (tb : Nat) (t : Nat) (p x : V) (K : OK) : Prop :=
  onSome (T t) fun ti => onSome x.cells fun vs => Req (vs.length = ti.size) (Req (ti.size ≤ 900) (Req ((vs.all V.one) = true) (storeTo h tb ti vs p K)))

/-- Parts of a slice literal, each a value at its place, from 0 on. -/
def litPart (h : Heap) : Bool → Option (List V) → Option (List D × List Nat)
  | true, some vs => cDs h vs
  | _, _ => none

def litParts (h : Heap) : Nat → List (Nat × V) → Option (List (List D) × List Nat)
  | _, [] => some ([], [])
  | k, (i, v) :: l => match litPart h (i == k) v.cells, litParts h (k + 1) l with
    | some (ds, ls), some (es, ms) => some (ds :: es, ls ++ ms)
    | _, _ => none

def buildC (T : Tys) (fs : List (Nat × Nat)) (n : Nat) : List V → List (Nat × V) → Option (List V)
  | cs, [] => some cs
  | cs, (i, v) :: l => match fs[i]?, v.cells with
    | some (off, t), some vs => bif vs.length == sizeOfT T t && (off + vs.length).ble n && known T t then buildC T fs n (setAt cs off vs) l else none
    | _, _ => none

def structOf : Option TI → Option (List (Nat × Nat) × Nat × List Z)
  | some ⟨n, _, .struct fs, z⟩ => some (fs, n, z)
  | _ => none

inductive CK where
  | int (k : IntKind) | str | toBytes | toStr | no

def isU8 : Option TI → Bool
  | some ⟨_, _, .int .u8, _⟩ => true
  | _ => false

def convK : Option TI → Option TI → (Nat → Option TI) → CK
  | some ⟨_, _, .int _, _⟩, some ⟨_, _, .int k, _⟩, _ => .int k
  | some ⟨_, _, .str, _⟩, some ⟨_, _, .str, _⟩, _ => .str
  | some ⟨_, _, .str, _⟩, some ⟨_, _, .slice e, _⟩, T => bif isU8 (T e) then .toBytes else .no
  | some ⟨_, _, .slice e, _⟩, some ⟨_, _, .str, _⟩, T => bif isU8 (T e) then .toStr else .no
  | _, _, _ => .no

def byteCell (b : UInt8) : List D := [.int .u8 b.toNat]

def byteOf : List D → UInt8
  | [.int .u8 n] => UInt8.ofNat n.toNat
  | _ => 0

def convVC (h : Heap) (tb : Nat) : CK → V → OK → Prop
  | .int k, .d (.int _ n), K => K (.d (.int k (k.wrap n))) []
  | .str, .d (.str s), K => K (.d (.str s)) []
  | .toBytes, .d (.str s), K => Req (s.length ≤ MAX) (K (.own tb 0 s.length) [(tb, some (.arr 1 (s.map byteCell)))])
  | .toStr, x, K => onSome (slOf (toD h x)) fun xs => Req ((xs.map byteOf).map byteCell = xs) (K (.d (.str (xs.map byteOf))) [])
  | _, _, _ => False

def allocVC (tb : Nat) (ti : TI) (K : OK) : Prop :=
  Req (ti.zero.length = ti.size) (Req (ti.size ≤ 900) (K (.ref tb 0) ((mkBox tb 0 (zeroV ti.zero) ti.zero).2 ++ [(tb, some (.box (mkBox tb 0 (zeroV ti.zero) ti.zero).1))])))

def boxVC (tb : Nat) (ti : TI) (x : V) (K : OK) : Prop := onSome x.cells fun vs =>
  Req (vs.length = ti.size) (Req (ti.size ≤ 900) (K (.ref tb 0) ((mkBox tb 0 vs ti.zero).2 ++ [(tb, some (.box (mkBox tb 0 vs ti.zero).1))])))

def moveNil (T : Tys) (tb : Nat) : Option Nat → OK → Prop
  | some e, K => K (.own tb 0 0) [(tb, some (.arr (sizeOfT T e) []))]
  | none, K => K .nils []

def moveVC (T : Tys) (tb ty : Nat) : V → OK → Prop
  | .nils, K => moveNil T tb (elemT T ty) K
  | v, K => K v []

def keepVC (v : V) (K : OK) : Prop := K v []

def pickVC : V → V → V → OK → Prop
  | .d (.bool t), a, b, K => K (bif t then a else b) []
  | _, _, _, _ => False

def nilVC (h : Heap) : V → OK → Prop
  | .ref n off, K => onObj (h n) (K (.ref n off) [])
  | .el n i j, K => onArr (h n) fun _ _ => K (.el n i j) []
  | .d (.ptr cs), K => K (.d (.ptr cs)) []
  | .d (.clo f cs), K => K (.d (.clo f cs)) []
  | .clo f cs, K => K (.clo f cs) []
  | _, _ => False

def unVC (op : UnOp) : V → OK → Prop
  | .d (.bool b), K => match op with | .not => K (.d (.bool (!b))) [] | _ => False
  | .d (.int k n), K => match op with | .neg => K (.d (.int k (k.wrap (0 - n)))) [] | _ => False
  | _, _ => False

def faVC (h : Heap) (off : Nat) : V → OK → Prop
  | .ref n o, K => onObj (h n) (K (.ref n (o + off)) [])
  | .el n i j, K => onArr (h n) fun _ _ => K (.el n i (j + off)) []
  | .d (.ptr cs), K => K (.d (.ptr (cs.drop off))) []
  | _, _ => False

def V.aggc : V → Option (List V)
  | .agg vs => some vs
  | .d (.agg ds) => some (ds.map .d)
  | _ => none

def fieldVC (T : Tys) (ft off : Nat) (x : V) (K : OK) : Prop := onSome x.aggc fun cs =>
  Req (loadOk T ft (cs.length - off)) (Req (known T ft = true) (K (loadC T ft cs off) []))

def strIx : V → V → OK → Prop
  | .d (.str s), .d (.int _ i), K => Req (0 ≤ i) (Req (i < s.length) (K (.d (.int .u8 (s.getD i.toNat 0).toNat)) []))
  | _, _, _ => False

def extVC (ix : Nat) : V → OK → Prop
  | .tup vs, K => onSome vs[ix]? fun v => K v []
  | _, _ => False

def makeVC (tb : Nat) (ti : TI) : V → V → OK → Prop
  | .d (.int _ n), .d (.int _ n'), K => Req (n = n') (Req (0 ≤ n) (Req (n ≤ 4294967296) (Req (ti.bytes ≤ 4096) (Req (ti.zero.length = ti.size) (K (.own tb 0 n.toNat) [(tb, some (.arr ti.size (List.replicate n.toNat (zeroD ti.zero))))])))))
  | _, _, _ => False

def V.isC : V → Bool
  | .agg _ | .tup _ | .clo _ _ => false
  | _ => true

def calleeVC (P : Program) (h : Heap) (tb : Nat) (args : List V) : V → OK → Prop
  | .d (.clo f cs), K => callVC P h tb f (args ++ cs.map .d) K
  | .clo f vs, K => Req ((vs.all V.isC) = true) (callVC P h tb f (args ++ vs) K)
  | _, _ => False

def litVC (tb : Nat) (len : Nat) (ti : TI) : Option (List (List D) × List Nat) → OK → Prop
  | some (es, ls), K => Req (es.length = len) (Req (len ≤ 65536) (Req (len * ti.size ≤ 65536) (Req ((∀ c ∈ es, c.length = ti.size)) (Req ((∀ c ∈ es, ∀ d ∈ c, d.one = true)) (K (.own tb 0 len) (ls.map (·, none) ++ [(tb, some (.arr ti.size es))]))))))
  | none, _ => False

/-- One operation (number i of its region): its value and what it changes. -/
def opVC (T : Tys) (P : Program) (i : Nat) (o : Oper) (ρ : Operand → V) (h : Heap) (K : OK) : Prop :=
  match o.op with
  | .move x => keepVC (ρ x) K
  | .assign x => moveVC T (1000 * (i + 1)) o.type (ρ x) K
  | .pick c a b => pickVC (ρ c) (ρ a) (ρ b) K
  | .alloc e => onSome (T e) fun ti => allocVC (1000 * (i + 1)) ti K
  | .box e x => onSome (T e) fun ti => boxVC (1000 * (i + 1)) ti (ρ x) K
  | .build t parts => onSome (structOf (T t)) fun p => Req (p.2.2.length = p.2.1) (Req ((p.1.all fun q => known T q.2) = true) (onSome (buildC T p.1 p.2.1 (zeroV p.2.2) (parts.toList.map fun q => (q.1, ρ q.2))) fun cs => K (.agg cs) []))
  | .buildSlice t len parts => onSome ((elemT T t).bind T) fun ti =>
      litVC (1000 * (i + 1)) len ti (litParts h 0 (parts.toList.map fun p => (p.1, ρ p.2))) K
  | .load t a => loadVC T h t (ρ a) K
  | .store t a x => storeVC T h (1000 * (i + 1)) t (ρ a) (ρ x) K
  | .nilCheck x => nilVC h (ρ x) K
  | .binOp op t x y _ => binVC T t op (ρ x) (ρ y) K
  | .unOp op _ x => unVC op (ρ x) K
  | .convert src dst x => convVC h (1000 * (i + 1)) (convK (T src) (T dst) T) (ρ x) K
  | .makeFunc (.func f) first captured => Req (first.toList.length = 0) (K (.clo f (captured.toList.map ρ)) [])
  | .makeSlice t l c => onSome ((elemT T t).bind T) fun ti => makeVC (1000 * (i + 1)) ti (ρ l) (ρ c) K
  | .slice t x lo hi mx => sliceVC T h t (ρ x) (lo.map ρ) (hi.map ρ) (mx.map ρ) K
  | .fieldAddr t x f => onSome (fieldOff T t f) fun p => Req (0 < sizeOfT T p.2) (faVC h p.1 (ρ x) K)
  | .field t x f => onSome (fieldOff T t f) fun p => fieldVC T p.2 p.1 (ρ x) K
  | .indexAddr t x i => indexVC T h (elemT T t) (ρ x) (ρ i) K
  | .index t x i => Req (isStr (T t) = true) (strIx (ρ x) (ρ i) K)
  | .extract x ix => extVC ix (ρ x) K
  | .call c => match c.callee with
    | .builtin b => builtinVC T h (1000 * (i + 1)) b c.argTypes.toList (c.args.toList.map ρ) K
    | .value (.func f) => callVC P h (1000 * (i + 1)) f (c.args.toList.map ρ) K
    | .value x => calleeVC P h (1000 * (i + 1)) (c.args.toList.map ρ) (ρ x) K
    | _ => False
  | _ => False

/-! ### operations whose answer is not told by data: is a slice nil; what is its capacity -/

/-- Which answers are possible where a slice is compared with nil. -/
def nilOf (h : Heap) : V → Option (Bool → Prop)
  | .d (.sl xs) => some fun b => b = true → xs = []
  | .own n _ len => match h n with
    | some (.arr _ _) => some fun b => b = true → len = 0
    | _ => none
  | .nils => some fun b => b = true
  | _ => none

def ndBin (h : Heap) (op : BinOp) : V → V → Option (Bool → Prop)
  | x, .nils => match op with
    | .eql => nilOf h x
    | .neq => (nilOf h x).map fun S b => S (!b)
    | _ => none
  | _, _ => none

def onNd : Option (Bool → Prop) → OK → Prop → Prop
  | some S, K, _ => ∀ b, S b → K (.d (.bool b)) []
  | none, _, p => p

def capVC (h : Heap) (ok : Bool) : List V → OK → Prop
  | [.own n _ len], K => Req (ok = true) (onArr (h n) fun _ _ => ∀ c : Nat, len ≤ c → K (.d (.int .i64 c)) [])
  | [.d (.sl xs)], K => Req (ok = true) (∀ c : Nat, xs.length ≤ c → K (.d (.int .i64 c)) [])
  | [.nils], K => Req (ok = true) (K (.d (.int .i64 0)) [])
  | _, _ => False

def slTy (T : Tys) (ts : List Nat) : Bool := isSl (ts.head?.bind T)

def stepVC (T : Tys) (P : Program) (i : Nat) (o : Oper) (ρ : Operand → V) (h : Heap) (K : OK) : Prop :=
  match o.op with
  | .binOp op t x y _ => onNd (bif isSl (T t) then ndBin h op (ρ x) (ρ y) else none) K (opVC T P i o ρ h K)
  | .call ⟨.builtin .cap, args, ts⟩ => capVC h (slTy T ts.toList) (args.toList.map ρ) K
  | _ => opVC T P i o ρ h K

/-! ### regions -/

def St.app (s : St) (dst : Option Nat) (v : V) (u : Upd) : St :=
  { env := match dst with | some t => (t, v) :: s.env | none => s.env, H := u.reverse ++ s.H }

def guardV (all : List Oper) (env : List (Nat × V)) (j : Nat) : V :=
  match all[j]? with
  | some o => match o.dst with
    | some t => eget env t
    | none => .dead
  | none => .dead

def guardT (all : List Oper) (j : Nat) : Option Nat := (all[j]?).bind (·.dst)

def seqVC (T : Tys) (P : Program) (all : List Oper) : Nat → List Oper → St → (St → Prop) → Prop
  | _, [], s, K => K s
  | i, o :: l, s, K =>
    match o.guard with
    | none => stepVC T P i o (ev s.env) (uget s.H) fun v u => seqVC T P all (i + 1) l (s.app o.dst v u) K
    | some (j, want) => match guardV all s.env j with
      | .d (.bool b) =>
        WayG b want (opVC T P i o (ev ((s.app (guardT all j) (.d (.bool want)) []).env)) (uget s.H) fun v u =>
          seqVC T P all (i + 1) l ((s.app (guardT all j) (.d (.bool want)) []).app o.dst v u) K)
         (seqVC T P all (i + 1) l ((s.app (guardT all j) (.d (.bool (!want))) []).app o.dst (.d .und) []) K)
      | .d .und => seqVC T P all (i + 1) l (s.app o.dst (.d .und) []) K
      | _ => False

/-- What an operation reads and writes. -/
structure Foot where
  rt : List Nat
  wt : Option Nat
  rn : List Nat
  wn : List Nat

def tmpsOf (o : Oper) : List Nat := o.op.operands.toList.filterMap fun | .tmp t => some t | _ => none

def rdN (o : Oper) (ρ : Operand → V) (h : Heap) : List Nat := match o.op with
  | .load _ a => refV (ρ a)
  | .store _ a x => refV (ρ a) ++ refV (ρ x)
  | .indexAddr _ x _ => refV (ρ x)
  | .slice _ x _ _ _ => refV (ρ x)
  | .nilCheck x => refV (ρ x)
  | .fieldAddr _ x _ => refV (ρ x)
  | .convert _ _ x => refV (ρ x)
  | .buildSlice _ _ parts => parts.toList.flatMap fun p => refV (ρ p.2)
  | .call c => (c.operands.toList.flatMap fun x => refV (ρ x)).flatMap (fun n => n :: refO h n)
  | _ => []

def drawVC (T : Tys) (P : Program) (all : List Oper) : Nat → List Oper → St → List Foot → (St → List Foot → Prop) → Prop
  | _, [], s, fs, K => K s fs
  | i, o :: l, s, fs, K =>
    match o.guard with
    | none => opVC T P i o (ev s.env) (uget s.H) fun v u => drawVC T P all (i + 1) l (s.app o.dst v u) (⟨tmpsOf o, o.dst, rdN o (ev s.env) (uget s.H), u.map (·.1)⟩ :: fs) K
    | some (j, want) => match guardV all s.env j with
      | .d (.bool b) =>
        WayG b want (opVC T P i o (ev s.env) (uget s.H) fun v u =>
          drawVC T P all (i + 1) l (s.app o.dst v u) (⟨(guardT all j).toList ++ tmpsOf o, o.dst, rdN o (ev s.env) (uget s.H), u.map (·.1)⟩ :: fs) K)
         (drawVC T P all (i + 1) l (s.app o.dst (.d .und) []) (⟨(guardT all j).toList, o.dst, [], []⟩ :: fs) K)
      | .d .und => drawVC T P all (i + 1) l (s.app o.dst (.d .und) []) (⟨(guardT all j).toList, o.dst, [], []⟩ :: fs) K
      | _ => False

/-- The operations that must come ahead of each, by the edges. -/
def befs : List (List Nat) → List Oper → List (List Nat)
  | acc, [] => acc
  | acc, o :: l => befs (acc ++ [dd [] ((o.after.toList.filter (Region.binds .any)).flatMap fun e => e.on :: (acc.getD e.on []))]) l

def apartL (a b : List Nat) : Bool := a.all fun n => !b.contains n

def apartF (x y : Foot) : Bool :=
  (match x.wt with | some t => !y.rt.contains t && !(y.wt == some t) | none => true) &&
  (match y.wt with | some t => !x.rt.contains t | none => true) &&
  apartL x.wn y.wn && apartL x.wn y.rn && apartL y.wn x.rn

def edgesOk : Nat → List Oper → Bool
  | _, [] => true
  | i, o :: l => (o.after.toList.all fun e => !Region.binds .any e || Nat.blt e.on i) && edgesOk (i + 1) l

/-- Operations that do not wait for one another are apart. -/
def commOK (all : List Oper) (fs : List Foot) : Bool :=
  let b := befs [] all
  let f := fs.reverse
  edgesOk 0 all && (f.length == all.length) &&
  (List.range all.length).all fun i => (List.range i).all fun j =>
    (b.getD i []).contains j || (match f[i]?, f[j]? with | some x, some y => apartF x y | _, _ => false)

/-! ### code -/

def firstRegion : Code → Nat
  | .region id _ _ => id
  | .seq a b => match a with
    | .skip | .label _ => firstRegion b
    | a => firstRegion a
  | .block _ c | .loop c | .scope c => firstRegion c
  | _ => 0

/-- Said of a region: its operations may run in any order. -/
def commP (_ : Nat) (all : List Oper) (fs : List Foot) : Prop := commOK all fs = true

abbrev Hints := Nat → List Nat

def cVC (T : Tys) (P : Program) (hr hl : Hints) : Code → St → (Exit → St → Prop) → Prop
  | .skip, s, K => K .normal s
  | .region id ops draw, s, K =>
    match draw with
    | false => seqVC T P ops.toList 0 ops.toList (prep (hr id) s) fun s' => K .normal s'
    | true => drawVC T P ops.toList 0 ops.toList (prep (hr id) s) [] fun s' fs => Req (commP 0 ops.toList fs) (K .normal s')
  | .seq a b, s, K => cVC T P hr hl a s fun e s' => match e with
    | .normal => cVC T P hr hl b s' K
    | e => K e s'
  | .cond c x y, s, K => match ev s.env c with
    | .d (.bool b) => Way b (cVC T P hr hl x s K) (cVC T P hr hl y s K)
    | _ => False
  | .block id c, s, K => cVC T P hr hl c s fun e s' => match e with
    | .exit i => if i = id then K .normal s' else K (.exit i) s'
    | e => K e s'
  | .loop c, s, K => ∃ (α : Type) (st : α → St) (inv : α → Prop) (m : α → Nat), (∃ x, prep (hl (firstRegion c)) s = st x ∧ inv x) ∧
      ∀ x, inv x → cVC T P hr hl c (st x) fun e s'' => match e with
        | .normal => ∃ y, prep (hl (firstRegion c)) s'' = st y ∧ inv y ∧ m y < m x
        | e => K e s''
  | .exit id, s, K => K (.exit id) s
  | .ret, s, K => K .ret s
  | .label _, s, K => K .normal s
  | _, _, _ => False

/-! ### functions -/

def one : List V → V
  | [v] => v
  | vs => .tup vs

/-- What a state gives back. -/
def resK (T : Tys) (s : St) : List ResultVar → (List V → Prop) → Prop
  | [], K => K []
  | .tmp t :: rs, K => resK T s rs fun vs => K (eget s.env t :: vs)
  | .cell a ty :: rs, K => loadVC T (uget s.H) ty (eget s.env a) fun v _ => resK T s rs fun vs => K (v :: vs)

def outsV (env : List (Nat × V)) : Nat → List Bool → List V
  | _, [] => []
  | i, b :: l => (bif b then eget env i else .dead) :: outsV env (i + 1) l

/-- What a state leaves: the pointers that came in, the result, and what they own. -/
def leaves (np : List Bool) (s : St) (res : V) : List V × V × List (Nat × AObj) :=
  let outs := outsV s.env 0 np
  let o := order (uget s.H) (outs ++ [res])
  (outs.map (renV (idx o)), renV (idx o) res, objs (uget s.H) (idx o) 0 o)

end Go.Rx

namespace Go.Rx
open Go Go.RowKit

def mark {α : Sort _} (x : α) : α := x
@[go_sem] theorem mark_eq {α : Sort _} (x : α) : mark x = x := (rfl)

section
variable {T : Tys} {P : Program} {i : Nat} {d : Option Nat} {ty : Nat} {pos : String} {af : Array Edge} {g : Option (Nat × Bool)} {ρ : Operand → V} {h : Heap} {K : OK}

theorem stepVC_congr {o : Oper} {i' : Nat} (e : mark i = i') : stepVC T P i o ρ h K = stepVC T P i' o ρ h K := by subst e; rfl
attribute [congr] stepVC_congr
@[congr] theorem onNd_congr {x x' : Option (Bool → Prop)} {q : Prop} (e : mark x = x') : onNd x K q = onNd x' K q := by subst e; rfl
@[congr] theorem capVC_congr {b b' : Bool} {l l' : List V} (e : mark b = b') (e2 : l = l') : capVC h b l K = capVC h b' l' K := by subst e; subst e2; rfl
theorem opVC_congr {o : Oper} {i' : Nat} (e : mark i = i') : opVC T P i o ρ h K = opVC T P i' o ρ h K := by subst e; rfl
attribute [congr] opVC_congr

@[go_sem] theorem op_move {x : Operand} : opVC T P i ⟨d, .move x, ty, pos, af, g⟩ ρ h K = keepVC (ρ x) K := rfl
@[go_sem] theorem op_assign {x : Operand} : opVC T P i ⟨d, .assign x, ty, pos, af, g⟩ ρ h K = moveVC T (1000 * (i + 1)) ty (ρ x) K := rfl
@[go_sem] theorem op_pick {c a b : Operand} : opVC T P i ⟨d, .pick c a b, ty, pos, af, g⟩ ρ h K = pickVC (ρ c) (ρ a) (ρ b) K := rfl
@[go_sem] theorem op_alloc {e : Nat} : opVC T P i ⟨d, .alloc e, ty, pos, af, g⟩ ρ h K = onSome (T e) fun ti => allocVC (1000 * (i + 1)) ti K := rfl
@[go_sem] theorem op_box {e : Nat} {x : Operand} : opVC T P i ⟨d, .box e x, ty, pos, af, g⟩ ρ h K = onSome (T e) fun ti => boxVC (1000 * (i + 1)) ti (ρ x) K := rfl
@[go_sem] theorem op_build {t : Nat} {ps : Array (Nat × Operand)} : opVC T P i ⟨d, .build t ps, ty, pos, af, g⟩ ρ h K =
    onSome (structOf (T t)) fun p => Req (p.2.2.length = p.2.1) (Req ((p.1.all fun q => known T q.2) = true) (onSome (buildC T p.1 p.2.1 (zeroV p.2.2) (ps.toList.map fun q => (q.1, ρ q.2))) fun cs => K (.agg cs) [])) := rfl
@[go_sem] theorem op_buildSlice {t n : Nat} {ps : Array (Nat × Operand)} : opVC T P i ⟨d, .buildSlice t n ps, ty, pos, af, g⟩ ρ h K =
    onSome ((elemT T t).bind T) fun ti => litVC (1000 * (i + 1)) n ti (litParts h 0 (ps.toList.map fun p => (p.1, ρ p.2))) K := rfl
@[go_sem] theorem op_load {t : Nat} {a : Operand} : opVC T P i ⟨d, .load t a, ty, pos, af, g⟩ ρ h K = loadVC T h t (ρ a) K := rfl
@[go_sem] theorem op_store {t : Nat} {a x : Operand} : opVC T P i ⟨d, .store t a x, ty, pos, af, g⟩ ρ h K = storeVC T h (1000 * (i + 1)) t (ρ a) (ρ x) K := rfl
@[go_sem] theorem op_nilCheck {x : Operand} : opVC T P i ⟨d, .nilCheck x, ty, pos, af, g⟩ ρ h K = nilVC h (ρ x) K := rfl
@[go_sem] theorem op_binOp {op : BinOp} {t u : Nat} {x y : Operand} : opVC T P i ⟨d, .binOp op t x y u, ty, pos, af, g⟩ ρ h K = binVC T t op (ρ x) (ρ y) K := rfl
@[go_sem] theorem op_unOp {op : UnOp} {t : Nat} {x : Operand} : opVC T P i ⟨d, .unOp op t x, ty, pos, af, g⟩ ρ h K = unVC op (ρ x) K := rfl
@[go_sem] theorem op_convert {s t : Nat} {x : Operand} : opVC T P i ⟨d, .convert s t x, ty, pos, af, g⟩ ρ h K = convVC h (1000 * (i + 1)) (convK (T s) (T t) T) (ρ x) K := rfl
@[go_sem] theorem op_makeFunc {f : Nat} {a b : Array Operand} : opVC T P i ⟨d, .makeFunc (.func f) a b, ty, pos, af, g⟩ ρ h K = (Req (a.toList.length = 0) (K (.clo f (b.toList.map ρ)) [])) := rfl
@[go_sem] theorem op_makeSlice {t : Nat} {l c : Operand} : opVC T P i ⟨d, .makeSlice t l c, ty, pos, af, g⟩ ρ h K = onSome ((elemT T t).bind T) fun ti => makeVC (1000 * (i + 1)) ti (ρ l) (ρ c) K := rfl
@[go_sem] theorem op_slice {t : Nat} {x : Operand} {lo hi mx : Option Operand} : opVC T P i ⟨d, .slice t x lo hi mx, ty, pos, af, g⟩ ρ h K = sliceVC T h t (ρ x) (lo.map ρ) (hi.map ρ) (mx.map ρ) K := rfl
@[go_sem] theorem op_fieldAddr {t f : Nat} {x : Operand} : opVC T P i ⟨d, .fieldAddr t x f, ty, pos, af, g⟩ ρ h K = onSome (fieldOff T t f) fun p => Req (0 < sizeOfT T p.2) (faVC h p.1 (ρ x) K) := rfl
@[go_sem] theorem op_field {t f : Nat} {x : Operand} : opVC T P i ⟨d, .field t x f, ty, pos, af, g⟩ ρ h K = onSome (fieldOff T t f) fun p => fieldVC T p.2 p.1 (ρ x) K := rfl
@[go_sem] theorem op_indexAddr {t : Nat} {x y : Operand} : opVC T P i ⟨d, .indexAddr t x y, ty, pos, af, g⟩ ρ h K = indexVC T h (elemT T t) (ρ x) (ρ y) K := rfl
@[go_sem] theorem op_index {t : Nat} {x y : Operand} : opVC T P i ⟨d, .index t x y, ty, pos, af, g⟩ ρ h K = (Req (isStr (T t) = true) (strIx (ρ x) (ρ y) K)) := rfl
@[go_sem] theorem op_extract {n : Nat} {x : Operand} : opVC T P i ⟨d, .extract x n, ty, pos, af, g⟩ ρ h K = extVC n (ρ x) K := rfl
@[go_sem] theorem op_builtin {b : Builtin} {as : Array Operand} {ts : Array TypeId} : opVC T P i ⟨d, .call ⟨.builtin b, as, ts⟩, ty, pos, af, g⟩ ρ h K =
    builtinVC T h (1000 * (i + 1)) b ts.toList (as.toList.map ρ) K := rfl
@[go_sem] theorem op_call {f : Nat} {as : Array Operand} {ts : Array TypeId} : opVC T P i ⟨d, .call ⟨.value (.func f), as, ts⟩, ty, pos, af, g⟩ ρ h K =
    callVC P h (1000 * (i + 1)) f (as.toList.map ρ) K := rfl
@[go_sem] theorem op_callT {t : Nat} {as : Array Operand} {ts : Array TypeId} : opVC T P i ⟨d, .call ⟨.value (.tmp t), as, ts⟩, ty, pos, af, g⟩ ρ h K =
    calleeVC P h (1000 * (i + 1)) (as.toList.map ρ) (ρ (.tmp t)) K := rfl
end

section
variable {T : Tys} {P : Program} {i : Nat} {d : Option Nat} {ty : Nat} {pos : String} {af : Array Edge} {g : Option (Nat × Bool)} {ρ : Operand → V} {h : Heap} {K : OK}
@[go_sem] theorem st_move {x : Operand} : stepVC T P i ⟨d, .move x, ty, pos, af, g⟩ ρ h K = keepVC (ρ x) K := rfl
@[go_sem] theorem st_assign {x : Operand} : stepVC T P i ⟨d, .assign x, ty, pos, af, g⟩ ρ h K = (moveVC T (1000 * (i + 1)) ty (ρ x) K) := rfl
@[go_sem] theorem st_pick {c a b : Operand} : stepVC T P i ⟨d, .pick c a b, ty, pos, af, g⟩ ρ h K = (pickVC (ρ c) (ρ a) (ρ b) K) := rfl
@[go_sem] theorem st_alloc {e : Nat} : stepVC T P i ⟨d, .alloc e, ty, pos, af, g⟩ ρ h K = (onSome (T e) fun ti => allocVC (1000 * (i + 1)) ti K) := rfl
@[go_sem] theorem st_box {e : Nat} {x : Operand} : stepVC T P i ⟨d, .box e x, ty, pos, af, g⟩ ρ h K = (onSome (T e) fun ti => boxVC (1000 * (i + 1)) ti (ρ x) K) := rfl
@[go_sem] theorem st_build {t : Nat} {ps : Array (Nat × Operand)} : stepVC T P i ⟨d, .build t ps, ty, pos, af, g⟩ ρ h K = (onSome (structOf (T t)) fun p => Req (p.2.2.length = p.2.1) (Req ((p.1.all fun q => known T q.2) = true) (onSome (buildC T p.1 p.2.1 (zeroV p.2.2) (ps.toList.map fun q => (q.1, ρ q.2))) fun cs => K (.agg cs) []))) := rfl
@[go_sem] theorem st_buildSlice {t n : Nat} {ps : Array (Nat × Operand)} : stepVC T P i ⟨d, .buildSlice t n ps, ty, pos, af, g⟩ ρ h K = (onSome ((elemT T t).bind T) fun ti => litVC (1000 * (i + 1)) n ti (litParts h 0 (ps.toList.map fun p => (p.1, ρ p.2))) K) := rfl
@[go_sem] theorem st_load {t : Nat} {a : Operand} : stepVC T P i ⟨d, .load t a, ty, pos, af, g⟩ ρ h K = (loadVC T h t (ρ a) K) := rfl
@[go_sem] theorem st_store {t : Nat} {a x : Operand} : stepVC T P i ⟨d, .store t a x, ty, pos, af, g⟩ ρ h K = (storeVC T h (1000 * (i + 1)) t (ρ a) (ρ x) K) := rfl
@[go_sem] theorem st_nilCheck {x : Operand} : stepVC T P i ⟨d, .nilCheck x, ty, pos, af, g⟩ ρ h K = (nilVC h (ρ x) K) := rfl
@[go_sem] theorem st_unOp {op : UnOp} {t : Nat} {x : Operand} : stepVC T P i ⟨d, .unOp op t x, ty, pos, af, g⟩ ρ h K = (unVC op (ρ x) K) := rfl
@[go_sem] theorem st_convert {s t : Nat} {x : Operand} : stepVC T P i ⟨d, .convert s t x, ty, pos, af, g⟩ ρ h K = (convVC h (1000 * (i + 1)) (convK (T s) (T t) T) (ρ x) K) := rfl
@[go_sem] theorem st_makeFunc {f : Nat} {a b : Array Operand} : stepVC T P i ⟨d, .makeFunc (.func f) a b, ty, pos, af, g⟩ ρ h K = ((Req (a.toList.length = 0) (K (.clo f (b.toList.map ρ)) []))) := rfl
@[go_sem] theorem st_makeSlice {t : Nat} {l c : Operand} : stepVC T P i ⟨d, .makeSlice t l c, ty, pos, af, g⟩ ρ h K = (onSome ((elemT T t).bind T) fun ti => makeVC (1000 * (i + 1)) ti (ρ l) (ρ c) K) := rfl
@[go_sem] theorem st_slice {t : Nat} {x : Operand} {lo hi mx : Option Operand} : stepVC T P i ⟨d, .slice t x lo hi mx, ty, pos, af, g⟩ ρ h K = (sliceVC T h t (ρ x) (lo.map ρ) (hi.map ρ) (mx.map ρ) K) := rfl
@[go_sem] theorem st_fieldAddr {t f : Nat} {x : Operand} : stepVC T P i ⟨d, .fieldAddr t x f, ty, pos, af, g⟩ ρ h K = (onSome (fieldOff T t f) fun p => Req (0 < sizeOfT T p.2) (faVC h p.1 (ρ x) K)) := rfl
@[go_sem] theorem st_field {t f : Nat} {x : Operand} : stepVC T P i ⟨d, .field t x f, ty, pos, af, g⟩ ρ h K = (onSome (fieldOff T t f) fun p => fieldVC T p.2 p.1 (ρ x) K) := rfl
@[go_sem] theorem st_indexAddr {t : Nat} {x y : Operand} : stepVC T P i ⟨d, .indexAddr t x y, ty, pos, af, g⟩ ρ h K = (indexVC T h (elemT T t) (ρ x) (ρ y) K) := rfl
@[go_sem] theorem st_index {t : Nat} {x y : Operand} : stepVC T P i ⟨d, .index t x y, ty, pos, af, g⟩ ρ h K = ((Req (isStr (T t) = true) (strIx (ρ x) (ρ y) K))) := rfl
@[go_sem] theorem st_extract {n : Nat} {x : Operand} : stepVC T P i ⟨d, .extract x n, ty, pos, af, g⟩ ρ h K = (extVC n (ρ x) K) := rfl
@[go_sem] theorem st_call {f : Nat} {as : Array Operand} {ts : Array TypeId} : stepVC T P i ⟨d, .call ⟨.value (.func f), as, ts⟩, ty, pos, af, g⟩ ρ h K = (callVC P h (1000 * (i + 1)) f (as.toList.map ρ) K) := rfl
@[go_sem] theorem st_callT {t : Nat} {as : Array Operand} {ts : Array TypeId} : stepVC T P i ⟨d, .call ⟨.value (.tmp t), as, ts⟩, ty, pos, af, g⟩ ρ h K = (calleeVC P h (1000 * (i + 1)) (as.toList.map ρ) (ρ (.tmp t)) K) := rfl
@[go_sem] theorem st_binOp {op : BinOp} {t u : Nat} {x y : Operand} : stepVC T P i ⟨d, .binOp op t x y u, ty, pos, af, g⟩ ρ h K = onNd (bif isSl (T t) then ndBin h op (ρ x) (ρ y) else none) K (binVC T t op (ρ x) (ρ y) K) := rfl
@[go_sem] theorem st_len {as : Array Operand} {ts : Array TypeId} : stepVC T P i ⟨d, .call ⟨.builtin .len, as, ts⟩, ty, pos, af, g⟩ ρ h K = builtinVC T h (1000 * (i + 1)) .len ts.toList (as.toList.map ρ) K := rfl
@[go_sem] theorem st_append {as : Array Operand} {ts : Array TypeId} : stepVC T P i ⟨d, .call ⟨.builtin .append, as, ts⟩, ty, pos, af, g⟩ ρ h K = builtinVC T h (1000 * (i + 1)) .append ts.toList (as.toList.map ρ) K := rfl
@[go_sem] theorem st_min {as : Array Operand} {ts : Array TypeId} : stepVC T P i ⟨d, .call ⟨.builtin .min, as, ts⟩, ty, pos, af, g⟩ ρ h K = builtinVC T h (1000 * (i + 1)) .min ts.toList (as.toList.map ρ) K := rfl
@[go_sem] theorem st_max {as : Array Operand} {ts : Array TypeId} : stepVC T P i ⟨d, .call ⟨.builtin .max, as, ts⟩, ty, pos, af, g⟩ ρ h K = builtinVC T h (1000 * (i + 1)) .max ts.toList (as.toList.map ρ) K := rfl
@[go_sem] theorem st_clear {as : Array Operand} {ts : Array TypeId} : stepVC T P i ⟨d, .call ⟨.builtin .clear, as, ts⟩, ty, pos, af, g⟩ ρ h K = builtinVC T h (1000 * (i + 1)) .clear ts.toList (as.toList.map ρ) K := rfl
@[go_sem] theorem st_cap {as : Array Operand} {ts : Array TypeId} : stepVC T P i ⟨d, .call ⟨.builtin .cap, as, ts⟩, ty, pos, af, g⟩ ρ h K = capVC h (slTy T ts.toList) (as.toList.map ρ) K := rfl
end

/-! what simp may look into -/
section
variable {T : Tys} {P : Program} {h : Heap} {K : OK} {tb : Nat}
@[congr] theorem moveVC_congr {ty : Nat} {v v' : V} (e : mark v = v') : moveVC T tb ty v K = moveVC T tb ty v' K := by subst e; rfl
@[congr] theorem keepVC_congr {v v' : V} (e : mark v = v') : keepVC v K = keepVC v' K := by subst e; rfl
@[congr] theorem appZ_congr {t t' : TI} {v v' x x' : V} (e0 : mark t = t') (e : v = v') (e2 : x = x') : appZ tb t v x K = appZ tb t' v' x' K := by subst e0; subst e; subst e2; rfl
@[congr] theorem Sel_congr {b b' : Bool} {p q : Prop} (h : mark b = b') : Sel b p q = Sel b' p q := by subst h; rfl
@[go_sem] theorem Sel_true {p q : Prop} : Sel true p q = p := rfl
@[go_sem] theorem Sel_false {p q : Prop} : Sel false p q = q := rfl
@[congr] theorem moveNil_congr {v v' : Option Nat} (e : mark v = v') : moveNil T tb v K = moveNil T tb v' K := by subst e; rfl
@[congr] theorem pickVC_congr {c c' a a' b b' : V} (e : mark c = c') (e1 : a = a') (e2 : b = b') : pickVC c a b K = pickVC c' a' b' K := by subst e; subst e1; subst e2; rfl
@[congr] theorem onSome_congr {α : Type} {F : α → Prop} {x x' : Option α} (e : mark x = x') : onSome x F = onSome x' F := by subst e; rfl
@[congr] theorem onBox_congr {F : List V → Prop} {x x' : Option AObj} (e : mark x = x') : onBox x F = onBox x' F := by subst e; rfl
@[congr] theorem onArr_congr {F : Nat → List (List D) → Prop} {x x' : Option AObj} (e : mark x = x') : onArr x F = onArr x' F := by subst e; rfl
@[congr] theorem onObj_congr {F : Prop} {x x' : Option AObj} (e : mark x = x') : onObj x F = onObj x' F := by subst e; rfl
@[congr] theorem onInt_congr {F : IntKind → Int → Prop} {x x' : V} (e : mark x = x') : onInt x F = onInt x' F := by subst e; rfl
@[congr] theorem allocVC_congr {ti ti' : TI} (e : mark ti = ti') : allocVC tb ti K = allocVC tb ti' K := by subst e; rfl
@[congr] theorem boxVC_congr {ti ti' : TI} {v v' : V} (e : mark ti = ti') (e2 : v = v') : boxVC tb ti v K = boxVC tb ti' v' K := by subst e; subst e2; rfl
@[congr] theorem litVC_congr {n : Nat} {ti ti' : TI} {v v' : Option (List (List D) × List Nat)} (e : mark ti = ti') (e2 : v = v') : litVC tb n ti v K = litVC tb n ti' v' K := by subst e; subst e2; rfl
@[congr] theorem loadVC_congr {t : Nat} {v v' : V} (e : mark v = v') : loadVC T h t v K = loadVC T h t v' K := by subst e; rfl
@[congr] theorem storeVC_congr {t : Nat} {v v' x x' : V} (e : mark v = v') (e2 : x = x') : storeVC T h tb t v x K = storeVC T h tb t v' x' K := by subst e; subst e2; rfl
@[congr] theorem storeTo_congr {ti ti' : TI} {vs vs' : List V} {v v' : V} (e : mark ti = ti') (e1 : vs = vs') (e2 : v = v') : storeTo h tb ti vs v K = storeTo h tb ti' vs' v' K := by subst e; subst e1; subst e2; rfl
@[congr] theorem nilVC_congr {v v' : V} (e : mark v = v') : nilVC h v K = nilVC h v' K := by subst e; rfl
@[congr] theorem binVC_congr {t : Nat} {op : BinOp} {v v' x x' : V} (e : mark v = v') (e2 : x = x') : binVC T t op v x K = binVC T t op v' x' K := by subst e; subst e2; rfl
@[congr] theorem intVC_congr {op : BinOp} {k k' : IntKind} {a a' b b' : Int} (e0 : mark k = k') (e : a = a') (e2 : b = b') : intVC op k a b K = intVC op k' a' b' K := by subst e0; subst e; subst e2; rfl
@[congr] theorem strVC_congr {op : BinOp} {a a' b b' : List UInt8} (e : mark a = a') (e2 : b = b') : strVC op a b K = strVC op a' b' K := by subst e; subst e2; rfl
@[congr] theorem eqlVC_congr {op : BinOp} {b b' : Bool} (e : mark b = b') : eqlVC op b K = eqlVC op b' K := by subst e; rfl
@[congr] theorem aggVC_congr {op : BinOp} {k k' : TK} {a a' b b' : Option (List D)} (e0 : mark k = k') (e : a = a') (e2 : b = b') : aggVC T op k a b K = aggVC T op k' a' b' K := by subst e0; subst e; subst e2; rfl
@[congr] theorem ptrVC_congr {op : BinOp} {b : Bool} {k k' : TK} (e0 : mark k = k') : ptrVC op b k K = ptrVC op b k' K := by subst e0; rfl
@[congr] theorem unVC_congr {op : UnOp} {v v' : V} (e : mark v = v') : unVC op v K = unVC op v' K := by subst e; rfl
@[congr] theorem convVC_congr {c c' : CK} {v v' : V} (e1 : mark c = c') (e : v = v') : convVC h tb c v K = convVC h tb c' v' K := by subst e1; subst e; rfl
@[congr] theorem makeVC_congr {ti ti' : TI} {v v' x x' : V} (e1 : mark ti = ti') (e : v = v') (e2 : x = x') : makeVC tb ti v x K = makeVC tb ti' v' x' K := by subst e1; subst e; subst e2; rfl
@[congr] theorem sliceVC_congr {t : Nat} {v v' : V} {a a' b b' c c' : Option V} (e : mark v = v') (e1 : a = a') (e2 : b = b') (e3 : c = c') : sliceVC T h t v a b c K = sliceVC T h t v' a' b' c' K := by subst e; subst e1; subst e2; subst e3; rfl
@[congr] theorem faVC_congr {o o' : Nat} {v v' : V} (e1 : mark o = o') (e : v = v') : faVC h o v K = faVC h o' v' K := by subst e1; subst e; rfl
@[congr] theorem fieldVC_congr {f f' o o' : Nat} {v v' : V} (e0 : mark f = f') (e1 : o = o') (e : v = v') : fieldVC T f o v K = fieldVC T f' o' v' K := by subst e0; subst e1; subst e; rfl
@[congr] theorem indexVC_congr {o o' : Option Nat} {v v' x x' : V} (e1 : mark o = o') (e : v = v') (e2 : x = x') : indexVC T h o v x K = indexVC T h o' v' x' K := by subst e1; subst e; subst e2; rfl
@[congr] theorem strIx_congr {v v' x x' : V} (e : mark v = v') (e2 : x = x') : strIx v x K = strIx v' x' K := by subst e; subst e2; rfl
@[congr] theorem extVC_congr {n : Nat} {v v' : V} (e : mark v = v') : extVC n v K = extVC n v' K := by subst e; rfl
@[congr] theorem builtinVC_congr {b : Builtin} {ts ts' : List Nat} {v v' : List V} (e0 : mark ts = ts') (e : v = v') : builtinVC T h tb b ts v K = builtinVC T h tb b ts' v' K := by subst e0; subst e; rfl
@[congr] theorem lenVC_congr {t t' : Option TI} {v v' : V} (e0 : mark t = t') (e : v = v') : lenVC h t v K = lenVC h t' v' K := by subst e0; subst e; rfl
@[congr] theorem appendVC_congr {t t' u u' : Option Nat} {v v' x x' : V} (e0 : mark t = t') (e1 : u = u') (e : v = v') (e2 : x = x') : appendVC T h tb t u v x K = appendVC T h tb t' u' v' x' K := by subst e0; subst e1; subst e; subst e2; rfl
@[congr] theorem appTo_congr {t t' : TI} {v v' : V} {x x' : List (List D)} (e0 : mark t = t') (e : v = v') (e2 : x = x') : appTo h tb t v x K = appTo h tb t' v' x' K := by subst e0; subst e; subst e2; rfl
@[congr] theorem clearVC_congr {t t' : TI} {v v' : V} (e0 : mark t = t') (e : v = v') : clearVC h t v K = clearVC h t' v' K := by subst e0; subst e; rfl
@[congr] theorem calleeVC_congr {v v' : V} {x x' : List V} (e : mark v = v') (e2 : x = x') : calleeVC P h tb x v K = calleeVC P h tb x' v' K := by subst e; subst e2; rfl
@[congr] theorem callVC_congr {f : Nat} {x x' : List V} (e2 : mark x = x') : callVC P h tb f x K = callVC P h tb f x' K := by subst e2; rfl
end

/-! code -/
def condVC (T : Tys) (P : Program) (hr hl : Hints) (x y : Code) (s : St) (K : Exit → St → Prop) : V → Prop
  | .d (.bool b) => Way b (cVC T P hr hl x s K) (cVC T P hr hl y s K)
  | _ => False

def nextK {α : Type} (st : α → St) (inv : α → Prop) (m : α → Nat) (x : α) (s : St) : Prop := ∃ y, s = st y ∧ inv y ∧ m y < m x

theorem next_data {α : Type} {st : α → St} {inv : α → Prop} {m : α → Nat} {x : α} {s : St} (y : α) (h0 : s = st y) (hi : inv y) (hm : m y < m x) : nextK st inv m x s := ⟨y, h0, hi, hm⟩

/-- What a round of a loop comes to. -/
def roundK {α : Type} (keep : List Nat) (st : α → St) (inv : α → Prop) (m : α → Nat) (x : α) (K : Exit → St → Prop) : Exit → St → Prop
  | .normal, s'' => nextK st inv m x (prep keep s'')
  | e, s'' => K e s''

/-- A loop, from a state that is prepared. -/
def loopVC (T : Tys) (P : Program) (hr hl : Hints) (c : Code) (keep : List Nat) (s : St) (K : Exit → St → Prop) : Prop :=
  ∃ (α : Type) (st : α → St) (inv : α → Prop) (m : α → Nat), (∃ x, s = st x ∧ inv x) ∧
      ∀ x, inv x → cVC T P hr hl c (st x) (roundK keep st inv m x K)

theorem loop_data {T : Tys} {P : Program} {hr hl : Hints} {c : Code} {keep : List Nat} {s : St} {K : Exit → St → Prop} {α : Type} (st : α → St) (inv : α → Prop) (m : α → Nat) (x0 : α) (h0 : s = st x0) (hi : inv x0)
    (h : ∀ x, inv x → cVC T P hr hl c (st x) (roundK keep st inv m x K)) : loopVC T P hr hl c keep s K := ⟨α, st, inv, m, ⟨x0, h0, hi⟩, h⟩

theorem req {p q : Prop} (h1 : p) (h2 : q) : Req p q := ⟨h1, h2⟩
theorem way {b : Bool} {p q : Prop} (h1 : b = true → p) (h2 : b = false → q) : Way b p q := ⟨h1, h2⟩
theorem way_dec {c : Prop} [Decidable c] {p q : Prop} (h1 : c → p) (h2 : ¬ c → q) : Way (decide c) p q := ⟨fun h => h1 (of_decide_eq_true h), fun h => h2 (of_decide_eq_false h)⟩
theorem way_ndec {c : Prop} [Decidable c] {p q : Prop} (h1 : ¬ c → p) (h2 : c → q) : Way (!decide c) p q := ⟨fun h => h1 (by simpa using h), fun h => h2 (by simpa using h)⟩
theorem way_not {b : Bool} {p q : Prop} (h1 : b = false → p) (h2 : b = true → q) : Way (!b) p q := ⟨fun h => h1 (by simpa using h), fun h => h2 (by simpa using h)⟩
theorem wayT_dec {c : Prop} [Decidable c] {p q : Prop} (h1 : c → p) (h2 : ¬ c → q) : WayG (decide c) true p q := ⟨fun h => h1 (of_decide_eq_true h), fun h => h2 (of_decide_eq_false h)⟩
theorem wayF_dec {c : Prop} [Decidable c] {p q : Prop} (h1 : ¬ c → p) (h2 : c → q) : WayG (decide c) false p q := ⟨fun h => h1 (of_decide_eq_false h), fun h => h2 (of_decide_eq_true h)⟩
theorem wayT_ndec {c : Prop} [Decidable c] {p q : Prop} (h1 : ¬ c → p) (h2 : c → q) : WayG (!decide c) true p q := ⟨fun h => h1 (by simpa using h), fun h => h2 (by simpa using h)⟩
theorem wayF_ndec {c : Prop} [Decidable c] {p q : Prop} (h1 : c → p) (h2 : ¬ c → q) : WayG (!decide c) false p q := ⟨fun h => h1 (by simpa using h), fun h => h2 (by simpa using h)⟩
theorem wayT {b : Bool} {p q : Prop} (h1 : b = true → p) (h2 : b = false → q) : WayG b true p q := ⟨h1, h2⟩
theorem wayF {b : Bool} {p q : Prop} (h1 : b = false → p) (h2 : b = true → q) : WayG b false p q := ⟨h1, h2⟩

def thenK (T : Tys) (P : Program) (hr hl : Hints) (b : Code) (K : Exit → St → Prop) : Exit → St → Prop
  | .normal, s' => cVC T P hr hl b s' K
  | e, s' => K e s'

def blockK (id : Nat) (K : Exit → St → Prop) : Exit → St → Prop
  | .exit i, s' => bif i == id then K .normal s' else K (.exit i) s'
  | e, s' => K e s'

section
variable {T : Tys} {P : Program} {hr hl : Hints} {s : St} {K : Exit → St → Prop}
@[congr] theorem cVC_congr {c : Code} {s' : St} (e : mark s = s') : cVC T P hr hl c s K = cVC T P hr hl c s' K := by subst e; rfl
@[congr] theorem condVC_congr {x y : Code} {v v' : V} (e : mark v = v') : condVC T P hr hl x y s K v = condVC T P hr hl x y s K v' := by subst e; rfl
@[congr] theorem loopVC_congr {c : Code} {k k' : List Nat} {s' : St} (e0 : mark k = k') (e : s = s') : loopVC T P hr hl c k s K = loopVC T P hr hl c k' s' K := by subst e0; subst e; rfl
@[congr] theorem nextK_congr {α : Type} {st : α → St} {inv : α → Prop} {m : α → Nat} {x : α} {s s' : St} (h1 : mark s = s') : nextK st inv m x s = nextK st inv m x s' := by subst h1; rfl
@[congr] theorem roundK_congr {α : Type} {keep : List Nat} {st : α → St} {inv : α → Prop} {m : α → Nat} {x : α} {e e' : Exit} {s' s'' : St} (h1 : mark e = e') (h2 : s' = s'') : roundK keep st inv m x K e s' = roundK keep st inv m x K e' s'' := by subst h1; subst h2; rfl
@[congr] theorem Req_congr {p p' q : Prop} (h : mark p = p') : Req p q = Req p' q := by subst h; rfl
@[congr] theorem Way_congr {b b' : Bool} {p q : Prop} (h : mark b = b') : Way b p q = Way b' p q := by subst h; rfl
@[congr] theorem WayG_congr {b b' w : Bool} {p q : Prop} (h : mark b = b') : WayG b w p q = WayG b' w p q := by subst h; rfl
@[go_sem] theorem Req_true {q : Prop} : Req True q = q := by simp [Req]
@[go_sem] theorem Way_true {p q : Prop} : Way true p q = p := by simp [Way]
@[go_sem] theorem Way_false {p q : Prop} : Way false p q = q := by simp [Way]
@[go_sem] theorem WayG_tt {p q : Prop} : WayG true true p q = p := by simp [WayG]
@[go_sem] theorem WayG_ff {p q : Prop} : WayG false false p q = p := by simp [WayG]
@[go_sem] theorem WayG_tf {p q : Prop} : WayG true false p q = q := by simp [WayG]
@[go_sem] theorem WayG_ft {p q : Prop} : WayG false true p q = q := by simp [WayG]
@[congr] theorem thenK_congr {b : Code} {e e' : Exit} {s' : St} (h1 : mark e = e') (h2 : s = s') : thenK T P hr hl b K e s = thenK T P hr hl b K e' s' := by subst h1; subst h2; rfl
@[congr] theorem blockK_congr {b : Nat} {e e' : Exit} {s' : St} (h1 : mark e = e') (h2 : s = s') : blockK b K e s = blockK b K e' s' := by subst h1; subst h2; rfl
@[congr] theorem seqVC_congr {all l : List Oper} {i i' : Nat} {s' : St} {K : St → Prop} (e0 : mark i = i') (e : s = s') : seqVC T P all i l s K = seqVC T P all i' l s' K := by subst e0; subst e; rfl
@[congr] theorem drawVC_congr {all l : List Oper} {i i' : Nat} {s' : St} {fs : List Foot} {K : St → List Foot → Prop} (e0 : mark i = i') (e : s = s') : drawVC T P all i l s fs K = drawVC T P all i' l s' fs K := by subst e0; subst e; rfl
@[congr] theorem commP_congr {n n' : Nat} {all : List Oper} {fs : List Foot} (e : mark n = n') : commP n all fs = commP n' all fs := by subst e; rfl
@[go_sem] theorem c_skip : cVC T P hr hl .skip s K = K .normal s := rfl
@[go_sem] theorem c_seq {a b : Code} : cVC T P hr hl (.seq a b) s K = cVC T P hr hl a s (thenK T P hr hl b K) := by
  simp only [cVC]; congr 1; funext e s'; cases e <;> rfl
@[go_sem] theorem c_region {id : Nat} {ops : List Oper} : cVC T P hr hl (.region id ops.toArray false) s K = seqVC T P ops 0 ops (prep (hr id) s) (K .normal) := rfl
@[go_sem] theorem c_draw {id : Nat} {ops : List Oper} : cVC T P hr hl (.region id ops.toArray true) s K =
    drawVC T P ops 0 ops (prep (hr id) s) [] fun s' fs => Req (commP 0 ops fs) (K .normal s') := rfl
@[go_sem] theorem c_cond {c : Operand} {x y : Code} : cVC T P hr hl (.cond c x y) s K = condVC T P hr hl x y s K (ev s.env c) := by
  simp only [cVC]; generalize ev s.env c = v; cases v with
  | d x => cases x <;> rfl
  | _ => rfl
@[go_sem] theorem c_block {id : Nat} {c : Code} : cVC T P hr hl (.block id c) s K = cVC T P hr hl c s (blockK id K) := by
  simp only [cVC]; congr 1; funext e s'; cases e <;> simp only [blockK]
  rename_i i; by_cases h : i = id <;> simp [h]
@[go_sem] theorem c_loop {c : Code} : cVC T P hr hl (.loop c) s K = loopVC T P hr hl c (hl (firstRegion c)) (prep (hl (firstRegion c)) s) K := by
  simp only [cVC, loopVC]
  congr 1; funext α; congr 1; funext st; congr 1; funext inv; congr 1; funext m; congr 1
  refine forall_congr fun x => ?_
  refine forall_congr fun hx => ?_
  congr 1; funext e s'; cases e <;> rfl
@[go_sem] theorem c_exit {id : Nat} : cVC T P hr hl (.exit id) s K = K (.exit id) s := rfl
@[go_sem] theorem c_ret : cVC T P hr hl .ret s K = K .ret s := rfl
@[go_sem] theorem c_label {l : Nat} : cVC T P hr hl (.label l) s K = K .normal s := rfl
end


end Go.Rx

namespace Go.Rx
open Go Go.RowKit

def Rel2 {α β : Type} (R : α → β → Prop) (l : List α) (l' : List β) : Prop :=
  l.length = l'.length ∧ ∀ (i : Nat) x y, l[i]? = some x → l'[i]? = some y → R x y

theorem Rel2.nil {α β : Type} (R : α → β → Prop) : Rel2 R [] [] := ⟨rfl, by simp⟩

theorem Rel2.cons {α β : Type} {R : α → β → Prop} {x : α} {y : β} {l : List α} {l' : List β} (h : R x y) (hl : Rel2 R l l') : Rel2 R (x :: l) (y :: l') := by
  refine ⟨by simp [hl.1], fun i a b h1 h2 => ?_⟩
  cases i with
  | zero => simp at h1 h2; subst h1; subst h2; exact h
  | succ i => simp at h1 h2; exact hl.2 i a b h1 h2

theorem Rel2.uncons {α β : Type} {R : α → β → Prop} {x : α} {l : List α} {l' : List β} (h : Rel2 R (x :: l) l') : ∃ y m, l' = y :: m ∧ R x y ∧ Rel2 R l m := by
  cases l' with
  | nil => simp [Rel2] at h
  | cons y m => exact ⟨y, m, rfl, h.2 0 x y rfl rfl, by simpa using h.1, fun i a b h1 h2 => h.2 (i + 1) a b (by simpa using h1) (by simpa using h2)⟩

theorem Rel2.nil_left {α β : Type} {R : α → β → Prop} {l' : List β} (h : Rel2 R [] l') : l' = [] := by
  cases l' with
  | nil => rfl
  | cons y m => simp [Rel2] at h

theorem Rel2.mono {α β : Type} {R S : α → β → Prop} {l : List α} {l' : List β} (h : Rel2 R l l') (hrs : ∀ x y, x ∈ l → R x y → S x y) : Rel2 S l l' :=
  ⟨h.1, fun i x y h1 h2 => hrs x y (List.mem_of_getElem? h1) (h.2 i x y h1 h2)⟩

theorem Rel2.drop {α β : Type} {R : α → β → Prop} {l : List α} {l' : List β} (h : Rel2 R l l') (n : Nat) : Rel2 R (l.drop n) (l'.drop n) :=
  ⟨by simp [h.1], fun i x y h1 h2 => h.2 (n + i) x y (by simpa using h1) (by simpa using h2)⟩

theorem Rel2.take {α β : Type} {R : α → β → Prop} {l : List α} {l' : List β} (h : Rel2 R l l') (n : Nat) : Rel2 R (l.take n) (l'.take n) := by
  refine ⟨by simp [h.1], fun i x y h1 h2 => ?_⟩
  rw [List.getElem?_take] at h1 h2
  split at h1
  · simp_all; exact h.2 i x y h1 h2
  · simp at h1

theorem Rel2.append {α β : Type} {R : α → β → Prop} {l m : List α} {l' m' : List β} (h : Rel2 R l l') (h2 : Rel2 R m m') : Rel2 R (l ++ m) (l' ++ m') := by
  induction l generalizing l' with
  | nil => rw [h.nil_left]; exact h2
  | cons x l ih => obtain ⟨y, t, rfl, hxy, ht⟩ := h.uncons; exact Rel2.cons hxy (ih ht)

theorem Rel2.map {α β γ : Type} {R : α → β → Prop} {S : γ → β → Prop} {l : List α} {l' : List β} (f : α → γ) (h : Rel2 R l l') (hf : ∀ x y, x ∈ l → R x y → S (f x) y) : Rel2 S (l.map f) l' := by
  refine ⟨by simp [h.1], fun i x y h1 h2 => ?_⟩
  rw [List.getElem?_map] at h1
  cases hx : l[i]? with
  | none => simp [hx] at h1
  | some a => simp [hx] at h1; subst h1; exact hf a y (List.mem_of_getElem? hx) (h.2 i a y hx h2)

theorem Rel2.get {α β : Type} {R : α → β → Prop} {l : List α} {l' : List β} (h : Rel2 R l l') {i : Nat} {x : α} (hx : l[i]? = some x) : ∃ y, l'[i]? = some y ∧ R x y := by
  have hi : i < l'.length := by rw [← h.1]; exact (List.getElem?_eq_some_iff.1 hx).1
  exact ⟨l'[i], List.getElem?_eq_getElem hi, h.2 i x _ hx (List.getElem?_eq_getElem hi)⟩

theorem Rel2.get' {α β : Type} {R : α → β → Prop} {l : List α} {l' : List β} (h : Rel2 R l l') {i : Nat} {y : β} (hy : l'[i]? = some y) : ∃ x, l[i]? = some x ∧ R x y := by
  have hi : i < l.length := by rw [h.1]; exact (List.getElem?_eq_some_iff.1 hy).1
  exact ⟨l[i], List.getElem?_eq_getElem hi, h.2 i _ y (List.getElem?_eq_getElem hi) hy⟩

/-! ### types -/

def kindOK : TypeDesc → TK → Prop
  | .struct fs, .struct l => fs.toList.map (fun f => (f.offset, f.type)) = l
  | .slice e, .slice e' => e = e'
  | .int k, .int k' => k = k'
  | .string, .str => True
  | .bool, .bool => True
  | .pointer _, .ptr => True
  | d, .other => d.isRow = false ∧ (∀ e, d ≠ .slice e) ∧ (∀ k, d ≠ .int k) ∧ d ≠ .string
  | _, _ => False

def Z.rel : Z → Value → Prop
  | .d x, v => ∀ w ok, DRel w ok x v
  | .nils _, v => v = .slice none 0 0

structure TyAt (P : Program) (t : Nat) (i : TI) (info : TypeInfo) (d : TypeDesc) (z : Value) : Prop where
  inf : P.info? t = some info
  size : info.size = i.size
  bytes : info.bytes = i.bytes
  und : P.underlying t = some d
  kind : kindOK d i.kind
  zero : info.zero = some z
  zrel : Rel2 Z.rel i.zero z.cells.toList
  zone : ∀ x ∈ i.zero, ∀ y, x = .d y → y.one = true
  eqs : ∀ fs, d = .struct fs → P.stoodInHeld t = false ∧ P.eqGuardType P.depth t = false ∧ ∀ f ∈ fs.toList, f.name ≠ "_"

def TyOK (P : Program) (T : Tys) : Prop := ∀ t i, T t = some i → ∃ info d z, TyAt P t i info d z

section
variable {P : Program} {w : World} {t : Nat} {i : TI} {info : TypeInfo} {d : TypeDesc} {z : Value}

theorem TyAt.run_sizeOf (h : TyAt P t i info d z) : (sizeOf t).run P w = .ok i.size w := by
  simp [sizeOf, typeInfo, h.inf, h.size]
theorem TyAt.run_typeInfo (h : TyAt P t i info d z) : (typeInfo t).run P w = .ok info w := by
  simp [typeInfo, h.inf]
theorem TyAt.run_und (h : TyAt P t i info d z) : (underlying t).run P w = .ok d w := run_underlying h.und w
theorem TyAt.run_zero (h : TyAt P t i info d z) : (zeroValue t).run P w = .ok z w := by
  simp [zeroValue, typeInfo, h.inf, h.zero]

theorem kindOK_struct {l : List (Nat × Nat)} (h : kindOK d (.struct l)) : ∃ fs, d = .struct fs ∧ fs.toList.map (fun f => (f.offset, f.type)) = l := by
  cases d <;> simp [kindOK] at h; exact ⟨_, rfl, h⟩
theorem kindOK_slice {e : Nat} (h : kindOK d (.slice e)) : d = .slice e := by
  cases d <;> simp [kindOK] at h; subst h; rfl
theorem kindOK_int {k : IntKind} (h : kindOK d (.int k)) : d = .int k := by
  cases d <;> simp [kindOK] at h; subst h; rfl
theorem kindOK_str (h : kindOK d .str) : d = .string := by cases d <;> simp [kindOK] at h; rfl

def TK.isRow : TK → Bool
  | .struct _ => true
  | _ => false

theorem kindOK_row {k : TK} (h : kindOK d k) : d.isRow = k.isRow := by
  cases k <;> cases d <;> first | rfl | (simp [kindOK, TypeDesc.isRow] at h; done) | (simp [kindOK, TypeDesc.isRow] at h ⊢; simp [TK.isRow]; done)

theorem TyAt.run_isAgg (h : TyAt P t i info d z) : (isAgg t).run P w = .ok i.kind.isRow w := by
  have := kindOK_row h.kind
  unfold isAgg
  rw [Sem.run_bind, h.run_und, ← this]
  cases d <;> rfl
end

theorem sizeOfT_pos {P : Program} {T : Tys} (hT : TyOK P T) {t : Nat} (h : 0 < sizeOfT T t) : ∃ i info d z, T t = some i ∧ TyAt P t i info d z ∧ sizeOfT T t = i.size := by
  unfold sizeOfT at h ⊢
  cases hi : T t with
  | none => simp [hi] at h
  | some i => obtain ⟨info, d, z, ha⟩ := hT t i hi; exact ⟨i, info, d, z, rfl, ha, rfl⟩

theorem isStruct_kind {T : Tys} {t : Nat} {i : TI} (h : T t = some i) : isStruct T t = i.kind.isRow := by
  unfold isStruct; rw [h]; obtain ⟨a, b, k, z⟩ := i; cases k <;> rfl

theorem elemT_some {T : Tys} {t e : Nat} (h : elemT T t = some e) : ∃ i, T t = some i ∧ i.kind = .slice e := by
  unfold elemT at h
  split at h
  · rename_i a b e' z hi; simp at h; subst h; exact ⟨_, hi, rfl⟩
  · simp at h

/-! ### cells of values -/

section
variable {w : World} {ok : Nat → Prop} {lam : Nat → Option Nat} {H : Heap}

theorem ofD_agg {ds : List D} {v : Value} (h : DRel w ok (.agg ds) v) : ∃ cs, v = .agg ⟨cs⟩ ∧ Rel2 (DRel w ok) ds cs := by
  cases h with | agg _ vs hl hd => exact ⟨vs, rfl, hl, hd⟩

theorem DRel.one {x : D} {v : Value} (h : DRel w ok x v) (h1 : x.one = true) : v.oneCell' = true := by
  cases h <;> first | rfl | (simp [D.one] at h1)

theorem VRel.one {x : V} {v : Value} (h : VRel w ok lam H x v) (h1 : x.one = true) : v.oneCell' = true := by
  cases h with
  | d h => exact h.one h1
  | ref h2 => obtain ⟨A, rfl⟩ := h2; rfl
  | el h2 => obtain ⟨A, rfl⟩ := h2; rfl
  | own h2 => obtain ⟨A, l, c, rfl⟩ := h2; rfl
  | nils => rfl
  | agg => simp [V.one] at h1
  | tup => simp [V.one] at h1
  | clo => rfl
  | dead => simp [V.one] at h1
end

end Go.Rx

namespace Go.Rx
open Go Go.RowKit

section
variable {P : Program} {T : Tys} {w : World} {ok : Nat → Prop} {lam : Nat → Option Nat} {H : Heap} {q : Nat → Prop}

def eqK (v0 : V) (u0 : Upd) : OK := fun v u => v = v0 ∧ u = u0

theorem VRel.mkAgg {cs : List V} {vs : List Value} (h : Rel2 (VRel w ok lam H) cs vs) : VRel w ok lam H (.agg cs) (.agg ⟨vs⟩) := .agg h.1 h.2
theorem VRel.mkTup {cs : List V} {vs : List Value} (h : Rel2 (VRel w ok lam H) cs vs) : VRel w ok lam H (.tup cs) (.tuple ⟨vs⟩) := .tup h.1 h.2

theorem VRel.inv_agg {cs : List V} {v : Value} (h : VRel w ok lam H (.agg cs) v) : ∃ vs, v = .agg ⟨vs⟩ ∧ Rel2 (VRel w ok lam H) cs vs := by
  cases h with | agg hl hd => exact ⟨_, rfl, hl, hd⟩
theorem VRel.inv_tup {cs : List V} {v : Value} (h : VRel w ok lam H (.tup cs) v) : ∃ vs, v = .tuple ⟨vs⟩ ∧ Rel2 (VRel w ok lam H) cs vs := by
  cases h with | tup hl hd => exact ⟨_, rfl, hl, hd⟩
theorem VRel.inv_d {x : D} {v : Value} (h : VRel w ok lam H (.d x) v) : DRel w ok x v := by
  cases h with | d h => exact h

/-- Reading a variable whose cells lie in a row. -/
theorem load_core {t : Nat} {i : TI} {info : TypeInfo} {d : TypeDesc} {z : Value} (ht : TyAt P t i info d z) (hTt : T t = some i) {b o off : Nat} {cells : List V} {vs : List Value}
    (hr : Rel2 (VRel w ok lam H) (cells.drop off) vs) (hc : w.rangeAt b o vs) (hs : i.size ≤ vs.length) (hp : 0 < i.size) (hone : (isStruct T t || sizeOfT T t == 1) = true) :
    ∃ cv, (Instr.loadAt t (.pointer (some ⟨b, o, none⟩))).run P w = .ok cv w ∧ VRel w ok lam H (loadC T t cells off) cv ∧ ((∀ v ∈ cells, VGood q v) → VGood q (loadC T t cells off)) := by
  have hsz : sizeOfT T t = i.size := by simp [sizeOfT, hTt]
  have hst := isStruct_kind hTt
  cases hk : i.kind.isRow with
  | true =>
    refine ⟨.agg ⟨vs.take i.size⟩, ?_, ?_, ?_⟩
    · have := run_loadAt_mid (P := P) w b o t (vs.take i.size) d (fun j v hj => by
        rw [List.getElem?_take] at hj
        split at hj
        · exact hc j v hj
        · simp at hj) ht.und (by rw [kindOK_row ht.kind, hk]) (by simp [ht.inf, ht.size]; omega)
      exact this
    · simp only [loadC, hst, hk, cond_true, hsz]
      exact VRel.mkAgg (hr.take i.size)
    · intro hg
      simp only [loadC, hst, hk, cond_true]
      exact .agg fun v hv => hg v (List.mem_of_mem_drop (List.mem_of_mem_take hv))
  | false =>
    have h1 : i.size = 1 := by simpa [hst, hk, hsz] using hone
    cases vs with
    | nil => simp at hs; omega
    | cons v vs =>
      obtain ⟨x, hx, hxv⟩ := hr.get' (i := 0) rfl
      refine ⟨v, ?_, ?_, ?_⟩
      · have hcell := hc 0 v rfl
        simp only [Nat.add_zero] at hcell
        simp [Instr.loadAt, Instr.sureAddr, loadVar, ht.run_isAgg, hk, hcell]
      · simp only [loadC, hst, hk, cond_false]
        cases hd : cells.drop off with
        | nil => simp [hd] at hx
        | cons y l => simp [hd] at hx; subst hx; exact hxv
      · intro hg
        simp only [loadC, hst, hk, cond_false]
        cases hd : cells.drop off with
        | nil => exact .dead
        | cons y l => exact hg y (List.mem_of_mem_drop (i := off) (by rw [hd]; exact List.mem_cons_self))

theorem box_range (hk : HOK w ok lam H) {n off : Nat} {cells : List V} (hn : H n = some (.box cells)) :
    ∃ b cs T, lam n = some b ∧ w.heap[b]? = some (.cells ⟨cs⟩ T (0, 0)) ∧ Rel2 (VRel w ok lam H) cells cs ∧ w.rangeAt b off (cs.drop off) := by
  obtain ⟨b, ⟨cs⟩, T, h1, h2, h3, h4⟩ := hk.obj n _ hn
  refine ⟨b, cs, T, h1, h2, ⟨by simpa using h3, fun i x y hx hy => h4 i x y hx (by simpa using hy)⟩, fun j v hj => ?_⟩
  rw [cell_of_row w b (off + j) ⟨cs⟩ T (0, 0) h2]
  simpa using hj

theorem rel_of_cells {xs : List D} {f : Nat → Value} (h : ∀ (j : Nat) d, xs[j]? = some d → DRel w ok d (f j)) :
    Rel2 (DRel w ok) xs ((List.range xs.length).map f) := by
  refine ⟨by simp, fun i x y hx hy => ?_⟩
  have hi := (List.getElem?_eq_some_iff.1 hx).1
  simp [hi] at hy
  subst hy
  exact h i x hx

theorem Rel2.dV {xs : List D} {vs : List Value} (h : Rel2 (DRel w ok) xs vs) : Rel2 (VRel w ok lam H) (xs.map .d) vs :=
  Rel2.map _ h fun _ _ _ hr => .d hr

theorem rangeAt_range {b o n : Nat} {f : Nat → Value} (h : ∀ j, j < n → w.cell? ⟨b, o + j, none⟩ = some (f j)) : w.rangeAt b o ((List.range n).map f) := by
  intro j v hj
  rw [List.getElem?_map] at hj
  cases hx : (List.range n)[j]? with
  | none => simp [hx] at hj
  | some a =>
    have hlt := (List.getElem?_eq_some_iff.1 hx).1
    simp at hlt
    simp [hx] at hj
    rw [List.getElem?_range hlt] at hx
    simp at hx; subst hx; subst hj
    exact h j hlt

theorem rangeAt_drop {b o j : Nat} {vs : List Value} (h : w.rangeAt b o vs) : w.rangeAt b (o + j) (vs.drop j) := by
  intro k v hv
  rw [List.getElem?_drop] at hv
  rw [Nat.add_assoc]
  exact h (j + k) v hv

/-- The cells of an element of an array of ours. -/
theorem arr_range (hk : HOK w ok lam H) {n m i : Nat} {xs : List (List D)} (hn : H n = some (.arr m xs)) (hi : i < xs.length) :
    ∃ b cs T fr vs, lam n = some b ∧ w.heap[b]? = some (.cells cs T fr) ∧ (lget xs i).length = m ∧ Rel2 (DRel w ok) (lget xs i) vs ∧ w.rangeAt b (i * m) vs := by
  obtain ⟨hm, hmax, hc⟩ := hk.obj n _ hn
  have hx : xs[i]? = some (lget xs i) := by simp [lget, List.getD, hi]
  rcases hc with ⟨_, h⟩ | ⟨b, cs, T, fr, h1, h2, h3, h4, h5⟩
  · subst h; simp at hi
  · have hcell : ∀ j, w.cell? ⟨b, i * m + j, none⟩ = cs[i * m + j]? := fun j => cell_of_row w b _ cs T fr h2
    refine ⟨b, cs, T, fr, (List.range (lget xs i).length).map fun j => cs.getD (i * m + j) undef, h1, h2, hm _ (List.mem_of_getElem? hx), ?_, ?_⟩
    · refine rel_of_cells fun j d hd => ?_
      obtain ⟨c, hc, hr⟩ := h5 i _ j d hx hd
      simpa [Array.getD_eq_getD_getElem?, hc] using hr
    · refine rangeAt_range fun j hj => ?_
      obtain ⟨c, hc, hr⟩ := h5 i _ j (lget xs i)[j] hx (List.getElem?_eq_getElem hj)
      rw [hcell, hc]
      simp [Array.getD_eq_getD_getElem?, hc]

theorem good_map_d (q : Nat → Prop) (l : List D) : ∀ v ∈ l.map V.d, VGood q v := by
  intro v hv
  obtain ⟨x, _, rfl⟩ := List.mem_map.1 hv
  exact .d x

theorem load_sound (hT : TyOK P T) (hk : HOK w ok lam H) {t : Nat} {p : V} {pv : Value} (hp : VRel w ok lam H p pv) {v0 : V} {u0 : Upd} (h : loadVC T H t p (eqK v0 u0)) :
    ∃ cv, (Instr.loadAt t pv).run P w = .ok cv w ∧ u0 = [] ∧ VRel w ok lam H v0 cv ∧ ((∀ n o, H n = some o → OGood q o) → VGood q v0) := by
  cases p with
  | ref n off =>
    simp only [loadVC] at h
    cases hn : H n with
    | none => simp [hn, onBox] at h
    | some ob =>
      cases ob with
      | arr m xs => simp [hn, onBox] at h
      | box cells =>
        simp only [hn, onBox] at h
        obtain ⟨⟨hs, hpos, hone⟩, rfl, rfl⟩ := h
        obtain ⟨i, info, d, z, hTt, ht, hsz⟩ := sizeOfT_pos hT hpos
        obtain ⟨b, cs, Te, h1, h2, h3, h4⟩ := box_range (off := off) hk hn
        cases hp with | ref _ hp =>
        obtain ⟨b', hb', rfl⟩ := hp _ hn
        obtain rfl : b = b' := by rw [h1] at hb'; exact Option.some.inj hb'
        have hlen := h3.1
        obtain ⟨cv, hr, hv, hg⟩ := load_core (q := q) ht hTt (h3.drop off) h4 (by simp; omega) (by omega) hone
        exact ⟨cv, hr, rfl, hv, fun hgo => hg (hgo n _ hn)⟩
  | el n i j =>
    simp only [loadVC] at h
    cases hn : H n with
    | none => simp [hn, onArr] at h
    | some ob =>
      cases ob with
      | box cells => simp [hn, onArr] at h
      | arr m xs =>
        simp only [hn, onArr] at h
        obtain ⟨hi, ⟨hs, hpos, hone⟩, rfl, rfl⟩ := h
        obtain ⟨it, info, d, z, hTt, ht, hsz⟩ := sizeOfT_pos hT hpos
        obtain ⟨b, cs, Te, fr, vs, h1, h2, h3, h4, h5⟩ := arr_range hk hn hi
        cases hp with | el _ hp =>
        obtain ⟨_, b', hb', rfl⟩ := hp m xs hn
        obtain rfl : b = b' := by rw [h1] at hb'; exact Option.some.inj hb'
        have hlen := h4.1
        obtain ⟨cv, hr, hv, hg⟩ := load_core (q := q) (off := j) (cells := (lget xs i).map .d) ht hTt ((Rel2.dV h4).drop j) (rangeAt_drop h5) (by simp; omega) (by omega) hone
        exact ⟨cv, hr, rfl, hv, fun _ => hg (good_map_d q _)⟩
  | d x =>
    cases x with
    | ptr cs =>
      simp only [loadVC] at h
      obtain ⟨⟨hs, hpos, hone⟩, rfl, rfl⟩ := h
      obtain ⟨it, info, d, z, hTt, ht, hsz⟩ := sizeOfT_pos hT hpos
      cases hp.inv_d with | ptr _ b o f hb hv hd =>
      have hrel := rel_of_cells (w := w) (ok := ok) (xs := cs) (f := f) hd
      have hrange : w.rangeAt b o ((List.range cs.length).map f) := rangeAt_range fun j hj => hv j cs[j] (List.getElem?_eq_getElem hj)
      obtain ⟨cv, hr, hv, hg⟩ := load_core (q := q) (off := 0) (cells := cs.map .d) (lam := lam) (H := H) ht hTt (by simpa using Rel2.dV hrel) hrange (by simp; omega) (by omega) hone
      exact ⟨cv, hr, rfl, hv, fun _ => hg (good_map_d q _)⟩
    | _ => simp [loadVC] at h
  | _ => simp [loadVC] at h

end
end Go.Rx

namespace Go.Rx
open Go Go.RowKit

section
variable {P : Program} {T : Tys} {w : World} {ok : Nat → Prop} {lam : Nat → Option Nat} {H : Heap} {q : Nat → Prop} {v0 : V} {u0 : Upd}

/-- What a quiet operation comes to. -/
def Quiet (P : Program) (w : World) (ok : Nat → Prop) (lam : Nat → Option Nat) (H : Heap) (q : Nat → Prop) (v0 : V) (u0 : Upd) (g : Prop) (s : Sem Value) : Prop :=
  ∃ cv, s.run P w = .ok cv w ∧ u0 = [] ∧ VRel w ok lam H v0 cv ∧ (g → VGood q v0)

theorem fieldOff_some {t f off ft : Nat} (hT : TyOK P T) (h : fieldOff T t f = some (off, ft)) :
    ∃ i info fs z fld, T t = some i ∧ TyAt P t i info (.struct fs) z ∧ fs[f]? = some fld ∧ fld.offset = off ∧ fld.type = ft := by
  unfold fieldOff at h
  split at h
  · rename_i a b fs z hi
    obtain ⟨info, d, zz, ht⟩ := hT t _ hi
    obtain ⟨fl, rfl, hfl⟩ := kindOK_struct ht.kind
    rw [← hfl, List.getElem?_map] at h
    cases hx : fl.toList[f]? with
    | none => simp [hx] at h
    | some fld => simp [hx] at h; exact ⟨_, info, fl, zz, fld, hi, ht, by simpa using hx, h.1, h.2⟩
  · simp at h

theorem fieldAt_run {t f off ft : Nat} (hT : TyOK P T) (h : fieldOff T t f = some (off, ft)) (hp : 0 < sizeOfT T ft) (b o : Nat) :
    (Instr.fieldAt t (.pointer (some ⟨b, o, none⟩)) f).run P w = .ok (.pointer (some ⟨b, o + off, none⟩)) w := by
  obtain ⟨i, info, fs, z, fld, hTt, ht, hf, rfl, rfl⟩ := fieldOff_some hT h
  obtain ⟨i2, info2, d2, z2, hT2, ht2, hs2⟩ := sizeOfT_pos hT hp
  have hne : i2.size ≠ 0 := by omega
  have ha : (⟨b, o, none⟩ : Addr).add fld.offset = ⟨b, o + fld.offset, none⟩ := Addr.add_mid b o fld.offset
  simp [Instr.fieldAt, ht.run_und, hf, Instr.sureAddr, fieldPlace, ht2.run_sizeOf, hne, ha]

theorem fa_sound (hT : TyOK P T) {t f off ft : Nat} (hf : fieldOff T t f = some (off, ft)) (hp : 0 < sizeOfT T ft) {x : V} {xv : Value} (hx : VRel w ok lam H x xv)
    (h : faVC H off x (eqK v0 u0)) : Quiet P w ok lam H q v0 u0 (VGood q x) (Instr.fieldAt t xv f) := by
  cases x with
  | ref n o =>
    simp only [faVC] at h
    cases hn : H n with
    | none => simp [hn, onObj] at h
    | some ob =>
      simp only [hn, onObj] at h
      obtain ⟨rfl, rfl⟩ := h
      cases hx with | ref _ hx =>
      obtain ⟨b, hb, rfl⟩ := hx _ hn
      exact ⟨_, fieldAt_run hT hf hp b o, rfl, .ref ⟨_, rfl⟩ fun o' ho' => ⟨b, hb, rfl⟩, fun hg => by cases hg with | ref hg => exact .ref hg⟩
  | el n i j =>
    simp only [faVC] at h
    cases hn : H n with
    | none => simp [hn, onArr] at h
    | some ob =>
      cases ob with
      | box c => simp [hn, onArr] at h
      | arr m xs =>
        simp only [hn, onArr] at h
        obtain ⟨rfl, rfl⟩ := h
        cases hx with | el _ hx =>
        obtain ⟨hi, b, hb, rfl⟩ := hx _ _ hn
        refine ⟨_, fieldAt_run hT hf hp b _, rfl, .el ⟨_, rfl⟩ fun m' xs' ho' => ?_, fun hg => by cases hg with | el hg => exact .el hg⟩
        rw [hn] at ho'; cases ho'
        exact ⟨hi, b, hb, by rw [Nat.add_assoc]⟩
  | d x =>
    cases x with
    | ptr cs =>
      simp only [faVC] at h
      obtain ⟨rfl, rfl⟩ := h
      cases hx.inv_d with | ptr _ b o f' hb hv hd =>
      refine ⟨_, fieldAt_run hT hf hp b o, rfl, .d (.ptr _ b (o + off) (fun j => f' (off + j)) hb (fun j d hj => ?_) (fun j d hj => ?_)), fun _ => .d _⟩
      · rw [List.getElem?_drop] at hj; rw [Nat.add_assoc]; exact hv _ d hj
      · rw [List.getElem?_drop] at hj; exact hd _ d hj
    | _ => simp [faVC] at h
  | _ => simp [faVC] at h

theorem index_sound (hT : TyOK P T) {t : Nat} {x i : V} {xv iv : Value} (hx : VRel w ok lam H x xv) (hi : VRel w ok lam H i iv)
    (h : indexVC T H (elemT T t) x i (eqK v0 u0)) : Quiet P w ok lam H q v0 u0 (VGood q x) (Instr.indexAt t xv iv) := by
  have key : ∀ e i' info' d' z' k n A len cap, elemT T t = some e → TyAt P e i' info' d' z' → iv = .int k n → xv = .slice (some A) len cap → 0 ≤ n → n < len →
      (Instr.indexAt t xv iv).run P w = .ok (.pointer (some (A.add (n.toNat * i'.size)))) w := by
    intro e i' info' d' z' k n A len cap he hte hiv hxv h0 h1
    obtain ⟨it, hTt, hkt⟩ := elemT_some he
    obtain ⟨info, d, z, ht⟩ := hT t it hTt
    have hd : d = .slice e := kindOK_slice (hkt ▸ ht.kind)
    subst hd hiv hxv
    simp [Instr.indexAt, asIntOf, ht.run_und, h0, h1, hte.run_sizeOf]
  have hint : ∀ F : IntKind → Int → Prop, onInt i F → ∃ k n, i = .d (.int k n) ∧ iv = .int k n ∧ F k n := by
    intro F hF
    cases i with
    | d y => cases y with
      | int k n => cases hi.inv_d with | int => exact ⟨k, n, rfl, rfl, hF⟩
      | _ => simp [onInt] at hF
    | _ => simp [onInt] at hF
  cases x with
  | d y =>
    cases y with
    | sl xs =>
      simp only [indexVC] at h
      cases he : elemT T t with
      | none => simp [he, onSome] at h
      | some e =>
        simp only [he, onSome] at h
        obtain ⟨hkn, h⟩ := h
        obtain ⟨k, n, rfl, rfl, h0, h1, h2, rfl, rfl⟩ := hint _ h
        unfold known at hkn
        cases hTe : T e with
        | none => simp [hTe] at hkn
        | some ie =>
          obtain ⟨infoe, de, ze, hte⟩ := hT e ie hTe
          have hlt : n.toNat < xs.length := by omega
          have hget : xs[n.toNat]? = some (lget xs n.toNat) := by simp [lget, List.getD, hlt]
          have hse : sizeOfT T e = ie.size := by simp [sizeOfT, hTe]
          cases hx.inv_d with
          | sl0 A c => simp at h1; omega
          | sl _ m b o cap f hc hm hb hl hv hd =>
            have hme : ie.size = m := by rw [← hse, ← h2]; exact hl _ (List.mem_of_getElem? hget)
            refine ⟨_, key e ie infoe de ze k n _ _ _ he hte rfl rfl h0 h1, rfl, ?_, fun _ => .d _⟩
            rw [hme, Addr.add_mid]
            exact .d (.ptr _ b (o + n.toNat * m) (fun j => f (n.toNat * m + j)) hb (fun j d hj => by rw [Nat.add_assoc]; exact hv _ _ j d hget hj) (fun j d hj => hd _ _ j d hget hj))
    | _ => simp [indexVC] at h
  | own a off len =>
    simp only [indexVC] at h
    cases he : elemT T t with
    | none => simp [he, onSome] at h
    | some e =>
      simp only [he, onSome] at h
      obtain ⟨hkn, h⟩ := h
      obtain ⟨k, n, rfl, rfl, h⟩ := hint _ h
      unfold known at hkn
      cases hTe : T e with
      | none => simp [hTe] at hkn
      | some ie =>
        obtain ⟨infoe, de, ze, hte⟩ := hT e ie hTe
        have hse : sizeOfT T e = ie.size := by simp [sizeOfT, hTe]
        cases hn : H a with
        | none => simp [hn, onArr] at h
        | some ob =>
          cases ob with
          | box c => simp [hn, onArr] at h
          | arr m xs =>
            simp only [hn, onArr] at h
            obtain ⟨h0, h1, h2, h3, rfl, rfl⟩ := h
            cases hx with | own _ hx =>
            obtain ⟨hle, hcase⟩ := hx m xs hn
            rcases hcase with ⟨_, _, hz⟩ | ⟨b, o, cap, cs, Te, fr, g1, rfl, g3, g4, g5, g6⟩
            · omega
            · have ho : o = off * m := g4.resolve_left (by omega)
              refine ⟨_, key e ie infoe de ze k n _ _ _ he hte rfl rfl h0 h1, rfl, .el ⟨_, rfl⟩ fun m' xs' hm' => ?_, fun hg => by cases hg with | own hg => exact .el hg⟩
              rw [hn] at hm'; cases hm'
              refine ⟨by omega, b, g1, ?_⟩
              rw [Addr.add_mid, ho, ← hse, ← h3, Nat.add_zero, Nat.add_mul]
  | _ => simp [indexVC] at h

theorem data_mk (l : List UInt8) : (⟨⟨l⟩⟩ : ByteArray).data.toList = l := rfl

theorem extract_mk (l : List UInt8) (a b : Nat) : (⟨⟨l⟩⟩ : ByteArray).extract a b = ⟨⟨(l.take b).drop a⟩⟩ := by
  apply ByteArray.ext
  rw [ByteArray.data_extract]
  apply Array.ext'
  rw [Array.toList_extract]
  simp [List.drop_take, List.extract]

theorem append_mk (a b : List UInt8) : (⟨⟨a⟩⟩ : ByteArray) ++ ⟨⟨b⟩⟩ = ⟨⟨a ++ b⟩⟩ := by
  apply ByteArray.ext
  rw [ByteArray.data_append]
  simp

theorem size_mk (l : List UInt8) : (⟨⟨l⟩⟩ : ByteArray).size = l.length := rfl

theorem strIx_sound (hT : TyOK P T) {t : Nat} (hs : isStr (T t) = true) {x i : V} {xv iv : Value} (hx : VRel w ok lam H x xv) (hi : VRel w ok lam H i iv)
    (h : strIx x i (eqK v0 u0)) : Quiet P w ok lam H q v0 u0 True (Instr.index t xv iv) := by
  unfold strIx at h
  split at h
  · rename_i s k n
    obtain ⟨h0, h1, rfl, rfl⟩ := h
    cases hx.inv_d with | str _ hm =>
    cases hi.inv_d with | int =>
    have hd : P.underlying t = some .string := by
      unfold isStr at hs
      split at hs
      · rename_i a b z hTt
        obtain ⟨info, d, zz, ht⟩ := hT t _ hTt
        have := kindOK_str ht.kind
        subst this
        exact ht.und
      · simp at hs
    have hlt : n.toNat < s.length := by omega
    have hget : (⟨⟨s⟩⟩ : ByteArray)[n.toNat]? = some (s.getD n.toNat 0) := by
      have : n.toNat < (⟨⟨s⟩⟩ : ByteArray).size := hlt
      rw [getElem?_pos (⟨⟨s⟩⟩ : ByteArray) n.toNat this]
      simp [List.getD, hlt]
      rfl
    refine ⟨_, ?_, rfl, .d (.int .u8 _), fun _ => .d _⟩
    simp [Instr.index, asIntOf, run_underlying hd, h0, hget]
  · exact h.elim

theorem bound_sound {o : Option V} {ov : Option Value} {d : Int} {n : Int} (hr : match o, ov with | none, none => True | some x, some xv => VRel w ok lam H x xv | _, _ => False)
    (h : bound o d = some n) : (o = none ∧ ov = none ∧ n = d) ∨ ∃ k, ov = some (.int k n) := by
  unfold bound at h
  split at h
  · rename_i d'
    cases ov with
    | none => simp at h; exact .inl ⟨rfl, rfl, h.symm⟩
    | some _ => exact hr.elim
  · cases ov with
    | none => exact hr.elim
    | some xv =>
      simp at h; subst h
      cases hr.inv_d with | int => exact .inr ⟨_, rfl⟩
  · simp at h

theorem sliceBound_run {k : IntKind} {i : Int} {y : Nat} {c : BoundsCode} (h0 : 0 ≤ i) (h1 : i ≤ y) : (Instr.sliceBound (.int k i) y c).run P w = .ok i.toNat w := by
  simp [Instr.sliceBound, asIntOf, h0, h1]

theorem sliceBounds_run {isS : Bool} {len cap : Nat} {lo hi : Option Value} {l h : Int} (hl : (lo = none ∧ l = 0) ∨ ∃ k, lo = some (.int k l)) (hh : (hi = none ∧ h = len) ∨ ∃ k, hi = some (.int k h))
    (h0 : 0 ≤ l) (h1 : l ≤ h) (h2 : h ≤ cap) : (Instr.sliceBounds isS len cap lo hi none).run P w = .ok (l.toNat, h.toNat, cap) w := by
  have hle : l ≤ (h.toNat : Int) := by omega
  have h3 : 0 ≤ h := by omega
  rcases hl with ⟨rfl, rfl⟩ | ⟨k, rfl⟩ <;> rcases hh with ⟨rfl, rfl⟩ | ⟨k', rfl⟩
  · simp [Instr.sliceBounds]
  · simp only [Instr.sliceBounds, Sem.run_bind, Sem.run_pure, Result.andThen_ok, sliceBound_run h3 h2]; rfl
  · simp only [Instr.sliceBounds, Sem.run_bind, Sem.run_pure, Result.andThen_ok]; rw [sliceBound_run h0 (by omega)]; rfl
  · simp only [Instr.sliceBounds, Sem.run_bind, Sem.run_pure, Result.andThen_ok, sliceBound_run h3 h2]; rw [Option.isSome_none]; simp only [Bool.false_eq_true, if_false]; rw [sliceBound_run h0 hle]; rfl

end
end Go.Rx

namespace Go.Rx
open Go Go.RowKit

section
variable {P : Program} {T : Tys} {w : World} {ok : Nat → Prop} {lam : Nat → Option Nat} {H : Heap} {q : Nat → Prop} {v0 : V} {u0 : Upd}

def ORel (w : World) (ok : Nat → Prop) (lam : Nat → Option Nat) (H : Heap) : Option V → Option Value → Prop
  | none, none => True
  | some x, some xv => VRel w ok lam H x xv
  | _, _ => False

theorem isStr_und (hT : TyOK P T) {t : Nat} (hs : isStr (T t) = true) : P.underlying t = some .string := by
  unfold isStr at hs
  split at hs
  · rename_i a b z hTt
    obtain ⟨info, d, zz, ht⟩ := hT t _ hTt
    have := kindOK_str ht.kind
    subst this
    exact ht.und
  · simp at hs

theorem bound_run {o : Option V} {ov : Option Value} {d n : Int} (hr : ORel w ok lam H o ov) (h : bound o d = some n) : (ov = none ∧ n = d) ∨ ∃ k, ov = some (.int k n) := by
  rcases bound_sound (o := o) (ov := ov) (by cases o <;> cases ov <;> exact hr) h with ⟨_, h1, h2⟩ | h
  · exact .inl ⟨h1, h2⟩
  · exact .inr h

theorem slice_sound (hT : TyOK P T) {t : Nat} {x : V} {xv : Value} {lo hi mx : Option V} {lov hiv mxv : Option Value}
    (hx : VRel w ok lam H x xv) (hlo : ORel w ok lam H lo lov) (hhi : ORel w ok lam H hi hiv) (hmx : ORel w ok lam H mx mxv)
    (h : sliceVC T H t x lo hi mx (eqK v0 u0)) : Quiet P w ok lam H q v0 u0 (VGood q x) (Instr.sliceAt t xv lov hiv mxv) := by
  cases mx with
  | some y => cases x with
    | d z => cases z <;> simp [sliceVC] at h
    | _ => simp [sliceVC] at h
  | none =>
  obtain rfl : mxv = none := by cases mxv <;> simp_all [ORel]
  cases x with
  | ref => simp [sliceVC] at h
  | el => simp [sliceVC] at h
  | nils =>
    simp only [sliceVC] at h
    cases he : elemT T t with
    | none => simp [he, onSome] at h
    | some e =>
      simp only [he, onSome] at h
      obtain ⟨hkn, h⟩ := h
      cases hl : bound lo 0 with
      | none => simp [hl] at h
      | some l =>
        cases hh : bound hi 0 with
        | none => simp [hl, hh] at h
        | some hiN =>
          simp only [hl, hh] at h
          obtain ⟨rfl, rfl, rfl, rfl⟩ := h
          obtain ⟨it, hTt, hkt⟩ := elemT_some he
          obtain ⟨info, d, z, ht⟩ := hT t it hTt
          obtain rfl : d = .slice e := kindOK_slice (hkt ▸ ht.kind)
          unfold known at hkn
          cases hTe : T e with
          | none => simp [hTe] at hkn
          | some ie =>
            obtain ⟨infoe, de, ze, hte⟩ := hT e ie hTe
            cases hx
            have hb := sliceBounds_run (P := P) (w := w) (isS := true) (len := 0) (cap := 0) (bound_run hlo hl) (bound_run hhi hh) (Int.le_refl _) (Int.le_refl _) (Int.le_refl _)
            refine ⟨.slice none 0 0, ?_, rfl, .nils, fun _ => .nils⟩
            simp only [Instr.sliceAt, Sem.run_bind, ht.run_und, Result.andThen_ok, Instr.slice, hb, hte.run_sizeOf, Sem.run_pure]
            rfl
  | agg => simp [sliceVC] at h
  | tup => simp [sliceVC] at h
  | clo => simp [sliceVC] at h
  | dead => simp [sliceVC] at h
  | d y => cases y with
   | int => simp [sliceVC] at h
   | bool => simp [sliceVC] at h
   | agg => simp [sliceVC] at h
   | ptr => simp [sliceVC] at h
   | clo => simp [sliceVC] at h
   | nilp => simp [sliceVC] at h
   | und => simp [sliceVC] at h
   | str s =>
    simp only [sliceVC] at h
    obtain ⟨hs, h⟩ := h
    have hu := isStr_und hT hs
    cases hl : bound lo 0 with
    | none => simp [hl, onSome] at h
    | some l =>
      cases hh : bound hi s.length with
      | none => simp [hl, hh, onSome] at h
      | some hiN =>
        simp only [hl, hh, onSome] at h
        obtain ⟨h0, h1, h2, rfl, rfl⟩ := h
        cases hx.inv_d with | str _ hm =>
        have hb := sliceBounds_run (P := P) (w := w) (isS := false) (len := s.length) (cap := s.length) (bound_run hlo hl) (bound_run hhi hh) h0 h1 h2
        refine ⟨.string ⟨⟨(s.take hiN.toNat).drop l.toNat⟩⟩, ?_, rfl, .d (.str _ (by simp; omega)), fun _ => .d _⟩
        simp only [Instr.sliceAt, Sem.run_bind, run_underlying hu, Result.andThen_ok, Instr.slice, size_mk, hb, Option.isSome_none, Bool.false_eq_true, if_false, Sem.run_pure, extract_mk]
   | sl xs =>
    simp only [sliceVC] at h
    cases he : elemT T t with
    | none => simp [he, onSome] at h
    | some e =>
      simp only [he, onSome] at h
      obtain ⟨hkn, hsz, h⟩ := h
      cases hl : bound lo 0 with
      | none => simp [hl] at h
      | some l =>
        cases hh : bound hi xs.length with
        | none => simp [hl, hh] at h
        | some hiN =>
          simp only [hl, hh] at h
          obtain ⟨h0, h1, h2, rfl, rfl⟩ := h
          obtain ⟨it, hTt, hkt⟩ := elemT_some he
          obtain ⟨info, d, z, ht⟩ := hT t it hTt
          obtain rfl : d = .slice e := kindOK_slice (hkt ▸ ht.kind)
          unfold known at hkn
          cases hTe : T e with
          | none => simp [hTe] at hkn
          | some ie =>
            obtain ⟨infoe, de, ze, hte⟩ := hT e ie hTe
            have hse : sizeOfT T e = ie.size := by simp [sizeOfT, hTe]
            have run : ∀ A cap, xs.length ≤ cap → (Instr.sliceAt t (.slice A xs.length cap) lov hiv none).run P w =
                .ok (.slice (if cap = l.toNat then A else A.map (·.add (l.toNat * ie.size))) (hiN.toNat - l.toNat) (cap - l.toNat)) w := by
              intro A cap hcap
              have hb := sliceBounds_run (P := P) (w := w) (isS := true) (len := xs.length) (cap := cap) (bound_run hlo hl) (bound_run hhi hh) h0 h1 (by omega)
              simp only [Instr.sliceAt, Sem.run_bind, ht.run_und, Result.andThen_ok, Instr.slice, hb, hte.run_sizeOf, Sem.run_pure]
            cases hx.inv_d with
            | sl0 A c =>
              refine ⟨_, run A c (by simp), rfl, ?_, fun _ => .d _⟩
              have : hiN.toNat - l.toNat = 0 := by simp at h2; omega
              rw [this]
              simp only [List.take_nil, List.drop_nil]
              exact .d (.sl0 _ _)
            | sl _ m b o cap f hc hm hb hlm hv hd =>
              refine ⟨_, run _ cap hc, rfl, ?_, fun _ => .d _⟩
              have hlen : ((xs.take hiN.toNat).drop l.toNat).length = hiN.toNat - l.toNat := by simp; omega
              by_cases hz : hiN.toNat - l.toNat = 0
              · rw [hz]
                have : (xs.take hiN.toNat).drop l.toNat = [] := List.eq_nil_of_length_eq_zero (by omega)
                rw [this]
                exact .d (.sl0 _ _)
              · have hne : ¬ cap = l.toNat := by omega
                rw [if_neg hne]
                have hmem : ∃ c, c ∈ xs := by cases xs with | nil => simp at h2; omega | cons c l => exact ⟨c, List.mem_cons_self⟩
                obtain ⟨c, hcm⟩ := hmem
                have hme : ie.size = m := by rw [← hse, ← hsz c hcm]; exact hlm c hcm
                rw [← hlen, hme]
                simp only [Option.map_some, Addr.add_mid]
                have hget : ∀ (i : Nat) e, ((xs.take hiN.toNat).drop l.toNat)[i]? = some e → xs[l.toNat + i]? = some e := by
                  intro i e he
                  rw [List.getElem?_drop, List.getElem?_take] at he
                  split at he
                  · exact he
                  · simp at he
                refine .d (.sl _ m b (o + l.toNat * m) (cap - l.toNat) (fun k => f (l.toNat * m + k)) (by omega) (by omega) hb (fun e he => hlm e (List.mem_of_mem_take (List.mem_of_mem_drop he))) ?_ ?_)
                · intro i e j d hi hj
                  have := hv (l.toNat + i) e j d (hget i e hi) hj
                  rw [Nat.add_mul] at this
                  rw [Nat.add_assoc, ← Nat.add_assoc (l.toNat * m)]
                  exact this
                · intro i e j d hi hj
                  have := hd (l.toNat + i) e j d (hget i e hi) hj
                  rw [Nat.add_mul, Nat.add_assoc] at this
                  exact this
  | own n off len =>
    simp only [sliceVC] at h
    cases he : elemT T t with
    | none => simp [he, onSome] at h
    | some e =>
      simp only [he, onSome] at h
      cases hn : H n with
      | none => simp [hn, onArr] at h
      | some ob =>
        cases ob with
        | box c => simp [hn, onArr] at h
        | arr m xs =>
          simp only [hn, onArr] at h
          obtain ⟨hkn, hsz, h⟩ := h
          cases hl : bound lo 0 with
          | none => simp [hl] at h
          | some l =>
            cases hh : bound hi len with
            | none => simp [hl, hh] at h
            | some hiN =>
              simp only [hl, hh] at h
              obtain ⟨h0, h1, h2, rfl, rfl⟩ := h
              obtain ⟨it, hTt, hkt⟩ := elemT_some he
              obtain ⟨info, d, z, ht⟩ := hT t it hTt
              obtain rfl : d = .slice e := kindOK_slice (hkt ▸ ht.kind)
              unfold known at hkn
              cases hTe : T e with
              | none => simp [hTe] at hkn
              | some ie =>
                obtain ⟨infoe, de, ze, hte⟩ := hT e ie hTe
                have hse : sizeOfT T e = ie.size := by simp [sizeOfT, hTe]
                have run : ∀ A cap, len ≤ cap → (Instr.sliceAt t (.slice A len cap) lov hiv none).run P w =
                    .ok (.slice (if cap = l.toNat then A else A.map (·.add (l.toNat * ie.size))) (hiN.toNat - l.toNat) (cap - l.toNat)) w := by
                  intro A cap hcap
                  have hb := sliceBounds_run (P := P) (w := w) (isS := true) (len := len) (cap := cap) (bound_run hlo hl) (bound_run hhi hh) h0 h1 (by omega)
                  simp only [Instr.sliceAt, Sem.run_bind, ht.run_und, Result.andThen_ok, Instr.slice, hb, hte.run_sizeOf, Sem.run_pure]
                cases hx with | own _ hx =>
                obtain ⟨hle, hcase⟩ := hx m xs hn
                have hgood : VGood q (V.own n off len) → VGood q (V.own n (off + l.toNat) (hiN.toNat - l.toNat)) := fun hg => by cases hg with | own hg => exact .own hg
                rcases hcase with ⟨g1, rfl, g3⟩ | ⟨b, o, cap, cs, Te, fr, g1, rfl, g3, g4, g5, g6⟩
                · subst g3
                  refine ⟨_, run none 0 (Nat.le_refl 0), rfl, .own ⟨_, _, _, rfl⟩ fun m' xs' hm' => ?_, hgood⟩
                  have hl0 : l.toNat = 0 := by omega
                  have hh0 : hiN.toNat = 0 := by omega
                  rw [hn] at hm'; cases hm'
                  refine ⟨by omega, .inl ⟨g1, ?_, by omega⟩⟩
                  simp [hl0, hh0]
                · refine ⟨_, run _ cap g3, rfl, .own ⟨_, _, _, rfl⟩ fun m' xs' hm' => ?_, hgood⟩
                  rw [hn] at hm'; cases hm'
                  refine ⟨by omega, .inr ?_⟩
                  by_cases hc : cap = l.toNat
                  · rw [if_pos hc]
                    refine ⟨b, o, cap - l.toNat, cs, Te, fr, g1, rfl, by omega, .inl (by omega), g5, ?_⟩
                    have : off + l.toNat + (cap - l.toNat) = off + cap := by omega
                    rw [this]; exact g6
                  · rw [if_neg hc]
                    have ho : o = off * m := g4.resolve_left (by omega)
                    refine ⟨b, o + l.toNat * ie.size, cap - l.toNat, cs, Te, fr, g1, ?_, by omega, .inr ?_, g5, ?_⟩
                    · simp [Addr.add_mid]
                    · rw [ho, ← hse, ← hsz, Nat.add_mul]
                    · have : off + l.toNat + (cap - l.toNat) = off + cap := by omega
                      rw [this]; exact g6

end
end Go.Rx

namespace Go.Rx
open Go Go.RowKit

section
variable {P : Program} {T : Tys} {w : World} {ok : Nat → Prop} {lam : Nat → Option Nat} {H : Heap} {q : Nat → Prop} {v0 : V} {u0 : Upd}

theorem toList_mk (l : List UInt8) : (⟨⟨l⟩⟩ : ByteArray).toList = l := ByteArray.toList_eq _

theorem bLess_total (a b : List UInt8) : (bLess a b || a == b) = !bLess b a := by
  unfold bLess
  induction a generalizing b with
  | nil => cases b <;> simp [Op.bytesLess]
  | cons x a ih =>
    cases b with
    | nil => simp [Op.bytesLess]
    | cons y b =>
      have := ih b
      simp only [Op.bytesLess, List.cons_beq_cons]
      by_cases h1 : x < y
      · have h2 : ¬ y < x := by rw [UInt8.lt_iff_toNat_lt] at *; omega
        have h3 : ¬ y = x := by intro h; subst h; exact h2 h1
        simp [h1, h2, h3]
      · by_cases h2 : y < x
        · have h3 : ¬ x = y := by intro h; subst h; exact h1 h2
          simp [h1, h2, h3]
        · have h3 : x = y := by
            rw [UInt8.lt_iff_toNat_lt] at *
            exact UInt8.toNat_inj.1 (by omega)
          subst h3
          simp [h1]
          exact this

theorem bLess_swap (a b : List UInt8) : (!(bLess a b || a == b)) = bLess b a := by rw [bLess_total]; simp

def binRun (op : BinOp) (t : Nat) (x y : Operand) (a b : Value) : Sem Value := do
  eqGuard op t x y a b
  binOp op t a b

theorem guard_other {op : BinOp} {t : Nat} {x y : Operand} {a b : Value} (h1 : ¬ (a = .nilIface)) (h2 : ∀ c, a ≠ .agg c) : (eqGuard op t x y a b).run P w = .ok () w := by
  unfold eqGuard
  cases op <;> cases a <;> first | rfl | (exact absurd rfl h1) | (exact absurd rfl (h2 _)) | (cases b <;> rfl)

theorem int_sound {op : BinOp} {t : Nat} {x y : Operand} {k k' : IntKind} {a b : Int} (hk : isShift op = true ∨ k = k') (h : intVC op k a b (eqK v0 u0)) :
    Quiet P w ok lam H q v0 u0 True (binRun op t x y (.int k a) (.int k' b)) := by
  have hg : (eqGuard op t x y (.int k a) (.int k' b)).run P w = .ok () w := guard_other (by simp) (by simp)
  unfold Quiet binRun
  cases op <;> simp only [intVC] at h
  case add | sub | mul | and | or | xor =>
    obtain rfl : k = k' := hk.resolve_left (by simp [isShift])
    obtain ⟨rfl, rfl⟩ := h
    refine ⟨.int k _, ?_, rfl, .d (.int _ _), fun _ => .d _⟩
    simp only [Sem.run_bind, hg, Result.andThen_ok, binOp, ne_eq, not_true_eq_false, if_false, Op.intArith, Op.intBits]
    rfl
  case eql | neq | lss | leq | gtr | geq =>
    obtain rfl : k = k' := hk.resolve_left (by simp [isShift])
    obtain ⟨rfl, rfl⟩ := h
    refine ⟨.bool _, ?_, rfl, .d (.bool _), fun _ => .d _⟩
    simp only [Sem.run_bind, hg, Result.andThen_ok, binOp, ne_eq, not_true_eq_false, if_false, Op.intCmp]
    rfl
  case quo | rem =>
    obtain rfl : k = k' := hk.resolve_left (by simp [isShift])
    obtain ⟨hb, rfl, rfl⟩ := h
    exact ⟨_, by simp only [Sem.run_bind, hg, Result.andThen_ok, binOp, ne_eq, not_true_eq_false, if_false, Op.intDiv, if_neg hb]; rfl, rfl, .d (.int _ _), fun _ => .d _⟩
  case shl | shr =>
    obtain ⟨hb, rfl, rfl⟩ := h
    have hn : ¬ b < 0 := by omega
    exact ⟨_, by simp only [Sem.run_bind, hg, Result.andThen_ok, binOp, Op.shift, if_neg hn]; rfl, rfl, .d (.int _ _), fun _ => .d _⟩

theorem str_sound {op : BinOp} {t : Nat} {x y : Operand} {a b : List UInt8} (h : strVC op a b (eqK v0 u0)) :
    Quiet P w ok lam H q v0 u0 True (binRun op t x y (.string ⟨⟨a⟩⟩) (.string ⟨⟨b⟩⟩)) := by
  have hg : (eqGuard op t x y (.string ⟨⟨a⟩⟩) (.string ⟨⟨b⟩⟩)).run P w = .ok () w := guard_other (by simp) (by simp)
  have hbin : ∀ o, o ≠ .shl → o ≠ .shr → binOp o t (.string ⟨⟨a⟩⟩) (.string ⟨⟨b⟩⟩) = Op.stringOp o ⟨⟨a⟩⟩ ⟨⟨b⟩⟩ := by
    intro o h1 h2; cases o <;> first | rfl | contradiction
  unfold Quiet binRun
  cases op <;> simp only [strVC] at h
  case add =>
    obtain ⟨hl, rfl, rfl⟩ := h
    refine ⟨.string ⟨⟨a ++ b⟩⟩, ?_, rfl, .d (.str _ (by simpa using hl)), fun _ => .d _⟩
    have : ¬ (((⟨⟨a⟩⟩ : ByteArray).size + (⟨⟨b⟩⟩ : ByteArray).size : Nat) : Int) > IntKind.i64.max := by
      rw [size_mk, size_mk]
      unfold LEN at hl
      have : IntKind.i64.max = 9223372036854775807 := rfl
      omega
    simp only [Sem.run_bind, hg, Result.andThen_ok, hbin .add (by simp) (by simp), Op.stringOp, if_neg this, append_mk, Sem.run_pure]
  case eql | neq | lss | leq | gtr | geq =>
    obtain ⟨rfl, rfl⟩ := h
    refine ⟨.bool _, ?_, rfl, .d (.bool _), fun _ => .d _⟩
    simp only [Sem.run_bind, hg, Result.andThen_ok]
    rw [hbin _ (by simp) (by simp)]
    simp only [Op.stringOp, toList_mk, Sem.run_pure]
    first
      | rfl
      | (have e2 := bLess_swap a b; unfold bLess at e2; rw [e2]; rfl)
      | (have := bLess_total a b; unfold bLess at this; rw [this]; rfl)
      | (congr 2; simp [BEq.beq]; done)
      | (congr 2; by_cases hab : a = b <;> simp [hab])

end
end Go.Rx

namespace Go.Rx
open Go Go.RowKit

section
variable {P : Program} {T : Tys} {w : World} {ok : Nat → Prop} {lam : Nat → Option Nat} {H : Heap} {q : Nat → Prop} {v0 : V} {u0 : Upd}

theorem kindT_at (hT : TyOK P T) {t : Nat} {k : TK} (h : kindT T t = k) (hk : k ≠ .other) : ∃ i info d z, T t = some i ∧ i.kind = k ∧ TyAt P t i info d z := by
  unfold kindT at h
  cases hi : T t with
  | none => simp [hi] at h; exact absurd h.symm hk
  | some i => simp [hi] at h; obtain ⟨info, d, z, ha⟩ := hT t i hi; exact ⟨i, info, d, z, rfl, h, ha⟩

theorem eqlVC_sound {op : BinOp} {t : Nat} {a b : Value} {r : Bool} (hr : (Op.equal t a b).run P w = .ok r w) (hn : binOp .eql t a b = (do pure (.bool (← Op.equal t a b)))) (hm : binOp .neq t a b = (do pure (.bool (!(← Op.equal t a b)))))
    (hg : ∀ x y op, (eqGuard op t x y a b).run P w = .ok () w) {x y : Operand} (h : eqlVC op r (eqK v0 u0)) : Quiet P w ok lam H q v0 u0 True (binRun op t x y a b) := by
  unfold Quiet binRun
  cases op <;> simp only [eqlVC] at h
  case eql => obtain ⟨rfl, rfl⟩ := h; exact ⟨.bool r, by simp [hg, hn, hr], rfl, .d (.bool _), fun _ => .d _⟩
  case neq => obtain ⟨rfl, rfl⟩ := h; exact ⟨.bool (!r), by simp [hg, hm, hr], rfl, .d (.bool _), fun _ => .d _⟩

theorem scal_sound {x : V} {xv : Value} {xs : List D} (hx : VRel w ok lam H x xv) (hs : scal x = some xs) : ∃ cs, xv = .agg ⟨cs⟩ ∧ Rel2 (DRel w ok) xs cs := by
  cases x with
  | agg vs =>
    obtain ⟨cs, rfl, hr⟩ := hx.inv_agg
    refine ⟨cs, rfl, ?_⟩
    simp only [scal] at hs
    clear hx
    induction vs generalizing xs cs with
    | nil => rw [hr.nil_left]; simp [scalL] at hs; subst hs; exact Rel2.nil _
    | cons v vs ih =>
      obtain ⟨c, m, rfl, hvc, hm⟩ := hr.uncons
      cases v with
      | d y =>
        simp only [scalL] at hs
        cases hq : scalL vs with
        | none => simp [hq] at hs
        | some ys =>
          simp [hq] at hs
          subst hs
          exact Rel2.cons hvc.inv_d (ih hq _ hm)
      | _ => simp [scalL] at hs
  | d y =>
    cases y with
    | agg ds => simp [scal] at hs; subst hs; exact ofD_agg hx.inv_d
    | _ => simp [scal] at hs
  | _ => simp [scal] at hs

theorem eqT_sound (hT : TyOK P T) {dd : Nat} {ft : Nat} {x y : D} {xv yv : Value} {r : Bool} (hx : DRel w ok x xv) (hy : DRel w ok y yv) (h : eqT (kindT T ft) x y = some r) :
    (Op.equalIn (dd + 1) ft xv yv).run P w = .ok r w ∧ ∃ i info d z, T ft = some i ∧ TyAt P ft i info d z ∧ i.kind.isRow = false := by
  cases hk : kindT T ft with
  | int k' =>
    obtain ⟨i, info, d, z, hi, hik, ha⟩ := kindT_at hT hk (by simp)
    obtain rfl := kindOK_int (hik ▸ ha.kind)
    rw [hk] at h
    cases x <;> cases y <;> simp only [eqT] at h <;> try (simp at h; done)
    rename_i k a k2 b
    split at h
    · rename_i hkk; subst hkk; cases hx; cases hy
      simp at h; subst h
      exact ⟨by rw [run_equalIn_int w dd ft _ _ _ _ ha.und]; rfl, i, info, _, z, hi, ha, by rw [hik]; rfl⟩
    · simp at h
  | bool =>
    obtain ⟨i, info, d, z, hi, hik, ha⟩ := kindT_at hT hk (by simp)
    rw [hk] at h
    have hd : d = .bool := by have := ha.kind; rw [hik] at this; cases d <;> simp [kindOK] at this; rfl
    subst hd
    cases x <;> cases y <;> simp only [eqT] at h <;> try (simp at h; done)
    cases hx; cases hy
    simp at h; subst h
    exact ⟨run_equalIn_bool' w dd ft _ _ ha.und, i, info, _, z, hi, ha, by rw [hik]; rfl⟩
  | str =>
    obtain ⟨i, info, d, z, hi, hik, ha⟩ := kindT_at hT hk (by simp)
    obtain rfl := kindOK_str (hik ▸ ha.kind)
    rw [hk] at h
    cases x <;> cases y <;> simp only [eqT] at h <;> try (simp at h; done)
    cases hx; cases hy
    simp at h; subst h
    refine ⟨?_, i, info, _, z, hi, ha, by rw [hik]; rfl⟩
    rw [run_equalIn_string w dd ft _ _ ha.und, toList_mk, toList_mk]
    congr 1
    rw [Bool.eq_iff_iff]; simp
  | _ => rw [hk] at h; simp [eqT] at h

theorem part_run {ft off : Nat} {cs : List Value} {c : Value} {i : TI} {info : TypeInfo} {d : TypeDesc} {z : Value} (ha : TyAt P ft i info d z) (hr : i.kind.isRow = false) (hc : cs[off]? = some c) :
    (part ft ⟨cs⟩ off).run P w = .ok c w := by
  have : (⟨cs⟩ : Array Value)[off]? = some c := by simpa using hc
  simp [part, ha.run_isAgg, hr, this]

theorem eqFs_sound (hT : TyOK P T) (dd : Nat) {xs ys : List D} {cs cs' : List Value} (hx : Rel2 (DRel w ok) xs cs) (hy : Rel2 (DRel w ok) ys cs') :
    ∀ (fs : List Go.Field) (r : Bool), eqFs T (fs.map fun f => (f.offset, f.type)) xs ys = some r → (∀ f ∈ fs, f.name ≠ "_") → (Op.eqFields (dd + 1) ⟨cs⟩ ⟨cs'⟩ fs).run P w = .ok r w := by
  intro fs
  induction fs with
  | nil => intro r h _; simp [eqFs] at h; subst h; simp [Op.eqFields]
  | cons f fs ih =>
    intro r h hn
    simp only [List.map_cons, eqFs] at h
    cases ha : eqO (kindT T f.type) xs[f.offset]? ys[f.offset]? with
    | none => rw [ha] at h; simp [andO] at h
    | some a =>
      cases hb : eqFs T (fs.map fun f => (f.offset, f.type)) xs ys with
      | none => rw [ha, hb] at h; simp [andO] at h
      | some b =>
        rw [ha, hb] at h
        simp [andO] at h
        subst h
        cases hxo : xs[f.offset]? with
        | none => rw [hxo] at ha; simp [eqO] at ha
        | some x =>
          cases hyo : ys[f.offset]? with
          | none => rw [hxo, hyo] at ha; simp [eqO] at ha
          | some y =>
            rw [hxo, hyo] at ha
            simp only [eqO] at ha
            obtain ⟨c, hc, hxc⟩ := hx.get hxo
            obtain ⟨c', hc', hyc⟩ := hy.get hyo
            obtain ⟨hrun, i, info, d, z, hi, hta, hrow⟩ := eqT_sound hT (dd := dd) hxc hyc ha
            have hname := hn f List.mem_cons_self
            simp only [Op.eqFields, ne_eq, hname, not_false_eq_true, if_true, Sem.run_bind, part_run (w := w) hta hrow hc, part_run (w := w) hta hrow hc', Result.andThen_ok, hrun]
            cases a with
            | false => simp
            | true => simp only [Bool.not_true, Bool.false_eq_true, if_false, Bool.true_and]; exact ih b hb fun f hf => hn f (List.mem_cons_of_mem _ hf)

theorem bin_sound (hT : TyOK P T) {op : BinOp} {t : Nat} {xo yo : Operand} {x y : V} {xv yv : Value} (hx : VRel w ok lam H x xv) (hy : VRel w ok lam H y yv)
    (h : binVC T t op x y (eqK v0 u0)) : Quiet P w ok lam H q v0 u0 True (binRun op t xo yo xv yv) := by
  have agg : ∀ {x y : V}, VRel w ok lam H x xv → VRel w ok lam H y yv → aggVC T op (kindT T t) (scal x) (scal y) (eqK v0 u0) → Quiet P w ok lam H q v0 u0 True (binRun op t xo yo xv yv) := by
    intro x y hx hy h
    cases hk : kindT T t with
    | struct fs =>
      cases hsx : scal x with
      | none => rw [hk, hsx] at h; simp [aggVC] at h
      | some xs =>
        cases hsy : scal y with
        | none => rw [hk, hsx, hsy] at h; simp [aggVC] at h
        | some ys =>
          rw [hk, hsx, hsy] at h
          simp only [aggVC] at h
          cases he : eqFs T fs xs ys with
          | none => rw [he] at h; simp [onSome] at h
          | some r =>
            rw [he] at h
            simp only [onSome] at h
            obtain ⟨cs, rfl, hrx⟩ := scal_sound hx hsx
            obtain ⟨cs', rfl, hry⟩ := scal_sound hy hsy
            obtain ⟨i, info, d, z, hi, hik, ha⟩ := kindT_at hT hk (by simp)
            obtain ⟨fl, rfl, hfl⟩ := kindOK_struct (hik ▸ ha.kind)
            obtain ⟨e1, e2, e3⟩ := ha.eqs fl rfl
            have hfo : P.fieldsOf t = fl := by unfold Program.fieldsOf; rw [ha.und]
            refine eqlVC_sound (r := r) ?_ rfl rfl (fun x y op => run_eqGuard_agg w op t x y _ _ e2) h
            unfold Op.equal
            rw [show Op.maxDepth = 9998 + 1 + 1 from rfl, run_equalIn_agg w (9998 + 1) t _ _ (by rw [hfo]; exact ha.und) e1, hfo]
            exact eqFs_sound hT 9998 hrx hry fl.toList r (by rw [hfl]; exact he) e3
    | _ => rw [hk] at h; simp [aggVC] at h
  have ptr : ∀ {r : Bool} {a b : Value}, ptrVC op r (kindT T t) (eqK v0 u0) → (∀ e, (P.underlying t = some (.pointer e) → (Op.equal t a b).run P w = .ok r w)) → (∀ c, a ≠ .agg c) → a ≠ .nilIface →
      binOp .eql t a b = (do pure (.bool (← Op.equal t a b))) → binOp .neq t a b = (do pure (.bool (!(← Op.equal t a b)))) → Quiet P w ok lam H q v0 u0 True (binRun op t xo yo a b) := by
    intro r a b h hr h1 h2 h3 h4
    cases hk : kindT T t with
    | ptr =>
      rw [hk] at h
      obtain ⟨i, info, d, z, hi, hik, ha⟩ := kindT_at hT hk (by simp)
      have hd : ∃ e, d = .pointer e := by have := ha.kind; rw [hik] at this; cases d <;> simp [kindOK] at this; exact ⟨_, rfl⟩
      obtain ⟨e, rfl⟩ := hd
      exact eqlVC_sound (hr e ha.und) h3 h4 (fun x y op => guard_other h2 h1) h
    | _ => rw [hk] at h; simp [ptrVC] at h
  have pnil : ∀ (e : Nat) (a b : Option Addr) (r : Bool), P.underlying t = some (.pointer e) → (a = none ∧ b.isNone = r ∨ b = none ∧ a.isSome = true ∧ r = false) → (Op.equal t (.pointer a) (.pointer b)).run P w = .ok r w := by
    intro e a b r hu hab
    have key : ∀ n, (Op.equalIn (n + 1) t (.pointer a) (.pointer b)).run P w = .ok r w := by
     intro n
     simp only [Op.equalIn, Sem.run_bind, run_underlying hu, Result.andThen_ok]
     rcases hab with ⟨rfl, rfl⟩ | ⟨rfl, h2, rfl⟩
     · cases b <;> rfl
     · cases a with
       | none => simp at h2
       | some a => rfl
    exact key 9999
  unfold binVC at h
  split at h
  · cases hx.inv_d; cases hy.inv_d; exact int_sound h.1 h.2
  · cases hx.inv_d; cases hy.inv_d; exact str_sound h
  · rename_i a b
    cases he : eqT (kindT T t) (.bool a) (.bool b) with
    | none => rw [he] at h; simp [onSome] at h
    | some r =>
      rw [he] at h
      have hr := (eqT_sound (P := P) hT (dd := 9999) hx.inv_d hy.inv_d he).1
      cases hx.inv_d; cases hy.inv_d
      exact eqlVC_sound (r := r) hr rfl rfl (fun x y op => guard_other (by simp) (by simp)) h
  · cases hx.inv_d; cases hy.inv_d
    exact ptr h (fun e hu => pnil e _ _ _ hu (.inl ⟨rfl, rfl⟩)) (by simp) (by simp) rfl rfl
  · cases hx.inv_d with | ptr _ b o f hb hv hd =>
    cases hy.inv_d
    exact ptr h (fun e hu => pnil e _ _ _ hu (.inr ⟨rfl, rfl, rfl⟩)) (by simp) (by simp) rfl rfl
  · exact agg hx hy h

end
end Go.Rx

namespace Go.Rx
open Go Go.RowKit

section
variable {P : Program} {T : Tys} {w : World} {ok : Nat → Prop} {lam : Nat → Option Nat} {H : Heap} {q : Nat → Prop} {v0 : V} {u0 : Upd}

/-- The blocks that may be read, and those of some names. -/
def okB (ok : Nat → Prop) (lam : Nat → Option Nat) (H : Heap) (ls : List Nat) (b : Nat) : Prop := ok b ∨ ∃ n ∈ ls, H n ≠ none ∧ lam n = some b

theorem okB_of {b : Nat} {ls : List Nat} (h : ok b) : okB ok lam H ls b := .inl h
theorem okB_mono {b : Nat} {ls ms : List Nat} (h : okB ok lam H ls b) (hs : ∀ n ∈ ls, n ∈ ms) : okB ok lam H ms b := by
  rcases h with h | ⟨n, hn, h1, h2⟩
  · exact .inl h
  · exact .inr ⟨n, hs n hn, h1, h2⟩

theorem cD_sound (hk : HOK w ok lam H) {x : V} {v : Value} {d : D} {ls : List Nat} (hx : VRel w ok lam H x v) (h : cD H x = some (d, ls)) : DRel w (okB ok lam H ls) d v := by
  cases x with
  | d y => simp [cD] at h; obtain ⟨rfl, rfl⟩ := h; exact hx.inv_d.mono (fun _ _ => rfl) fun b hb => .inl hb
  | nils => simp [cD] at h; obtain ⟨rfl, rfl⟩ := h; cases hx; exact .sl0 _ _
  | own n off len =>
    simp only [cD] at h
    cases hn : H n with
    | none => simp [hn] at h
    | some ob =>
      cases ob with
      | box c => simp [hn] at h
      | arr m xs =>
        simp [hn] at h
        obtain ⟨rfl, rfl⟩ := h
        cases hx with | own _ hx =>
        obtain ⟨hle, hc⟩ := hx m xs hn
        rcases hc with ⟨_, rfl, rfl⟩ | ⟨b, o, cap, cs, Te, fr, g1, rfl, g3, g4, g5, g6⟩
        · simp; exact .sl0 _ _
        · obtain ⟨hm, hmax, hobj⟩ := hk.obj n _ hn
          rcases hobj with ⟨hz, _⟩ | ⟨b', cs', Te', fr', k1, k2, k3, k4, k5⟩
          · rw [g1] at hz; cases hz
          · obtain rfl : b = b' := by rw [g1] at k1; exact Option.some.inj k1
            have hlen : ((xs.drop off).take len).length = len := by simp; omega
            by_cases hz : len = 0
            · subst hz; simp; exact .sl0 _ _
            · have ho : o = off * m := g4.resolve_left (by omega)
              have hget : ∀ (i : Nat) e, ((xs.drop off).take len)[i]? = some e → xs[off + i]? = some e := by
                intro i e he
                rw [List.getElem?_take] at he
                split at he
                · rwa [List.getElem?_drop] at he
                · simp at he
              have := DRel.sl (w := w) (ok := okB ok lam H [n]) ((xs.drop off).take len) m b o cap (fun k => cs'.getD (off * m + k) undef) (by omega) (by unfold LEN; unfold MAX at *; omega) (.inr ⟨n, by simp, by rw [hn]; simp, g1⟩)
                (fun e he => hm e (List.mem_of_mem_drop (List.mem_of_mem_take he))) (fun i e j d hi hj => by
                  obtain ⟨c, hc, _⟩ := k5 (off + i) e j d (hget i e hi) hj
                  rw [Nat.add_mul, Nat.add_assoc] at hc
                  rw [ho, cell_of_row w b _ cs' Te' fr' k2, hc]
                  simp [Array.getD_eq_getD_getElem?, hc]) (fun i e j d hi hj => by
                  obtain ⟨c, hc, hd⟩ := k5 (off + i) e j d (hget i e hi) hj
                  rw [Nat.add_mul, Nat.add_assoc] at hc
                  simp only [Array.getD_eq_getD_getElem?, hc, Option.getD_some]
                  exact hd.mono (fun _ _ => rfl) fun b hb => .inl hb)
              rw [hlen] at this
              exact this
  | _ => simp [cD] at h

theorem cDs_sound (hk : HOK w ok lam H) : ∀ {xs : List V} {vs : List Value} {ds : List D} {ls : List Nat}, Rel2 (VRel w ok lam H) xs vs → cDs H xs = some (ds, ls) → Rel2 (DRel w (okB ok lam H ls)) ds vs := by
  intro xs
  induction xs with
  | nil => intro vs ds ls h hc; rw [h.nil_left]; simp [cDs] at hc; rw [hc.1]; exact Rel2.nil _
  | cons x xs ih =>
    intro vs ds ls h hc
    obtain ⟨v, m, rfl, hv, hm⟩ := h.uncons
    simp only [cDs] at hc
    cases h1 : cD H x with
    | none => simp [h1] at hc
    | some p =>
      obtain ⟨y, l⟩ := p
      cases h2 : cDs H xs with
      | none => simp [h1, h2] at hc
      | some p2 =>
        obtain ⟨ys, l2⟩ := p2
        simp [h1, h2] at hc
        obtain ⟨rfl, rfl⟩ := hc
        exact Rel2.cons ((cD_sound hk hv h1).mono (fun _ _ => rfl) fun b hb => okB_mono hb (by simp; intro n hn; exact .inl hn))
          ((ih hm h2).mono fun _ _ _ hd => hd.mono (fun _ _ => rfl) fun b hb => okB_mono hb (by simp; intro n hn; exact .inr hn))

theorem toP_sound (hk : HOK w ok lam H) {x : V} {v : Value} {d : D} {ls : List Nat} (hx : VRel w ok lam H x v) (h : toP H x = some (d, ls)) : DRel w (okB ok lam H ls) d v := by
  cases x with
  | ref n off =>
    simp only [toP] at h
    cases hn : H n with
    | none => simp [hn] at h
    | some ob =>
      cases ob with
      | arr m xs => simp [hn] at h
      | box cells =>
        cases hc : cDs H cells with
        | none => simp [hn, hc] at h
        | some p =>
          obtain ⟨ds, l⟩ := p
          simp [hn, hc] at h
          obtain ⟨rfl, rfl⟩ := h
          cases hx with | ref _ hx =>
          obtain ⟨b, hb, rfl⟩ := hx _ hn
          obtain ⟨b', cs, Te, h1, h2, h3, h4⟩ := box_range (off := off) hk hn
          obtain rfl : b = b' := by rw [h1] at hb; exact (Option.some.inj hb).symm
          have hr := (cDs_sound hk h3 hc).drop off
          have hlen := hr.1
          refine .ptr _ b off (fun j => (cs.drop off).getD j undef) (.inr ⟨n, by simp, by rw [hn]; simp, h1⟩) (fun j d hj => ?_) (fun j d hj => ?_)
          · obtain ⟨c, hc', _⟩ := hr.get hj
            rw [h4 j c hc']
            simp only [List.getD, hc', Option.getD_some]
          · obtain ⟨c, hc', hd⟩ := hr.get hj
            have : (cs.drop off).getD j undef = c := by simp only [List.getD, hc', Option.getD_some]
            rw [this]
            exact hd.mono (fun _ _ => rfl) fun b hb => okB_mono hb (by simp; intro n hn; exact .inr hn)
  | _ => exact cD_sound hk hx (by simpa only [toP] using h)

theorem toPs_sound (hk : HOK w ok lam H) : ∀ {xs : List V} {vs : List Value} {ds : List D} {ls : List Nat}, Rel2 (VRel w ok lam H) xs vs → toPs H xs = some (ds, ls) → Rel2 (DRel w (okB ok lam H ls)) ds vs := by
  intro xs
  induction xs with
  | nil => intro vs ds ls h hc; rw [h.nil_left]; simp [toPs] at hc; rw [hc.1]; exact Rel2.nil _
  | cons x xs ih =>
    intro vs ds ls h hc
    obtain ⟨v, m, rfl, hv, hm⟩ := h.uncons
    simp only [toPs] at hc
    cases h1 : toP H x with
    | none => simp [h1] at hc
    | some p =>
      obtain ⟨y, l⟩ := p
      cases h2 : toPs H xs with
      | none => simp [h1, h2] at hc
      | some p2 =>
        obtain ⟨ys, l2⟩ := p2
        simp [h1, h2] at hc
        obtain ⟨rfl, rfl⟩ := hc
        exact Rel2.cons ((toP_sound hk hv h1).mono (fun _ _ => rfl) fun b hb => okB_mono hb (by simp; intro n hn; exact .inl hn))
          ((ih hm h2).mono fun _ _ _ hd => hd.mono (fun _ _ => rfl) fun b hb => okB_mono hb (by simp; intro n hn; exact .inr hn))

theorem toD_sound (hk : HOK w ok lam H) {x : V} {v : Value} {d : D} {ls : List Nat} (hx : VRel w ok lam H x v) (h : toD H x = some (d, ls)) : DRel w (okB ok lam H ls) d v := by
  cases x with
  | agg vs =>
    obtain ⟨cs, rfl, hr⟩ := hx.inv_agg
    simp only [toD] at h
    cases hc : cDs H vs with
    | none => simp [hc] at h
    | some p =>
      obtain ⟨ds, l⟩ := p
      simp [hc] at h
      obtain ⟨rfl, rfl⟩ := h
      have := cDs_sound hk hr hc
      exact .agg _ _ this.1 this.2
  | clo f vs =>
    cases hx with | clo hl hd =>
    simp only [toD] at h
    cases hc : toPs H vs with
    | none => simp [hc] at h
    | some p =>
      obtain ⟨ds, l⟩ := p
      simp [hc] at h
      obtain ⟨rfl, rfl⟩ := h
      have := toPs_sound hk ⟨hl, hd⟩ hc
      exact .clo _ _ _ this.1 this.2
  | _ => exact cD_sound hk hx (by simpa only [toD] using h)

/-! ### more quiet operations -/

theorem V.cells_sound {x : V} {v : Value} {cs : List V} (hx : VRel w ok lam H x v) (h : x.cells = some cs) : Rel2 (VRel w ok lam H) cs v.cells.toList := by
  have single : ∀ x : V, (∀ c, v ≠ .agg c) → VRel w ok lam H x v → Rel2 (VRel w ok lam H) [x] v.cells.toList := by
    intro x hv hx
    have : v.cells = #[v] := by cases v <;> first | rfl | exact absurd rfl (hv _)
    rw [this]
    exact Rel2.cons hx (Rel2.nil _)
  cases x with
  | agg vs => simp [V.cells] at h; subst h; obtain ⟨c, rfl, hr⟩ := hx.inv_agg; exact hr
  | d y =>
    cases y with
    | agg ds => simp [V.cells] at h; subst h; obtain ⟨c, rfl, hr⟩ := ofD_agg hx.inv_d; exact Rel2.dV hr
    | und => simp [V.cells] at h
    | _ => simp [V.cells] at h; subst h; refine single _ ?_ hx; cases hx.inv_d <;> simp
  | dead => simp [V.cells] at h
  | tup => simp [V.cells] at h
  | ref n off => simp [V.cells] at h; subst h; refine single _ ?_ hx; cases hx with | ref h1 => obtain ⟨A, rfl⟩ := h1; simp
  | el n i j => simp [V.cells] at h; subst h; refine single _ ?_ hx; cases hx with | el h1 => obtain ⟨A, rfl⟩ := h1; simp
  | own n i j => simp [V.cells] at h; subst h; refine single _ ?_ hx; cases hx with | own h1 => obtain ⟨A, l, c, rfl⟩ := h1; simp
  | nils => simp [V.cells] at h; subst h; refine single _ ?_ hx; cases hx; simp
  | clo f vs => simp [V.cells] at h; subst h; refine single _ ?_ hx; cases hx; simp

end
end Go.Rx

namespace Go.Rx
open Go Go.RowKit

section
variable {P : Program} {T : Tys} {w : World} {ok : Nat → Prop} {lam : Nat → Option Nat} {H : Heap} {q : Nat → Prop} {v0 : V} {u0 : Upd}

theorem un_sound {op : UnOp} {x : V} {xv : Value} (hx : VRel w ok lam H x xv) (h : unVC op x (eqK v0 u0)) : Quiet P w ok lam H q v0 u0 True (Op.unary op xv) := by
  unfold unVC at h
  split at h
  · cases op <;> simp only at h
    obtain ⟨rfl, rfl⟩ := h
    cases hx.inv_d
    exact ⟨.bool _, rfl, rfl, .d (.bool _), fun _ => .d _⟩
  · cases op <;> simp only at h
    obtain ⟨rfl, rfl⟩ := h
    cases hx.inv_d
    exact ⟨.int _ _, rfl, rfl, .d (.int _ _), fun _ => .d _⟩
  · exact h.elim

theorem pick_sound {c a b : V} {cv av bv : Value} (hc : VRel w ok lam H c cv) (ha : VRel w ok lam H a av) (hb : VRel w ok lam H b bv) (h : pickVC c a b (eqK v0 u0)) :
    Quiet P w ok lam H q v0 u0 (VGood q a ∧ VGood q b) (do pure (if ← asBool cv then av else bv)) := by
  unfold pickVC at h
  split at h
  · rename_i t
    obtain ⟨rfl, rfl⟩ := h
    cases hc.inv_d
    cases t
    · exact ⟨bv, rfl, rfl, hb, fun hg => hg.2⟩
    · exact ⟨av, rfl, rfl, ha, fun hg => hg.1⟩
  · exact h.elim

theorem ext_sound {n : Nat} {x : V} {xv : Value} (hx : VRel w ok lam H x xv) (h : extVC n x (eqK v0 u0)) : Quiet P w ok lam H q v0 u0 (VGood q x) (Instr.extract xv n) := by
  unfold extVC at h
  split at h
  · rename_i vs
    obtain ⟨cs, rfl, hr⟩ := hx.inv_tup
    cases hv : vs[n]? with
    | none => simp [hv, onSome] at h
    | some v =>
      simp only [hv, onSome] at h
      obtain ⟨rfl, rfl⟩ := h
      obtain ⟨c, hc, hrel⟩ := hr.get hv
      refine ⟨c, ?_, rfl, hrel, fun hg => by cases hg with | tup hg => exact hg _ (List.mem_of_getElem? hv)⟩
      have : (⟨cs⟩ : Array Value)[n]? = some c := by simpa using hc
      simp [Instr.extract, this]
  · exact h.elim

theorem isSl_und (hT : TyOK P T) {t : Nat} (hs : isSl (T t) = true) : ∃ e, P.underlying t = some (.slice e) := by
  unfold isSl at hs
  split at hs
  · rename_i a b e z hTt
    obtain ⟨info, d, zz, ht⟩ := hT t _ hTt
    have := kindOK_slice ht.kind
    subst this
    exact ⟨_, ht.und⟩
  · simp at hs

theorem own_slice {n off len : Nat} {xv : Value} (hx : VRel w ok lam H (.own n off len) xv) {m : Nat} {xs : List (List D)} (hn : H n = some (.arr m xs)) : ∃ A c, xv = .slice A len c := by
  cases hx with | own _ hx =>
  obtain ⟨_, hc⟩ := hx m xs hn
  rcases hc with ⟨_, rfl, rfl⟩ | ⟨b, o, cap, cs, Te, fr, _, rfl, _⟩
  · exact ⟨_, _, rfl⟩
  · exact ⟨_, _, rfl⟩

theorem len_sound (hT : TyOK P T) {ts : Array Nat} {t ty : Nat} (hts : ts[0]? = some t) {x : V} {xv : Value} (hx : VRel w ok lam H x xv)
    (h : lenVC H (T t) x (eqK v0 u0)) : Quiet P w ok lam H q v0 u0 True (Builtin.len_ ts ty #[xv]) := by
  have sl : ∀ {e : Nat} {A : Option Addr} {n c : Nat}, P.underlying t = some (.slice e) → (Builtin.len_ ts ty #[.slice A n c]).run P w = .ok (.int .i64 n) w := by
    intro e A n c hu
    simp [Builtin.len_, hts, run_underlying hu, goInt]
  unfold lenVC at h
  split at h
  · obtain ⟨hs, rfl, rfl⟩ := h
    cases hx.inv_d
    have hu := isStr_und hT hs
    exact ⟨.int .i64 _, by simp [Builtin.len_, hts, run_underlying hu, goInt, size_mk], rfl, .d (.int _ _), fun _ => .d _⟩
  · obtain ⟨hs, rfl, rfl⟩ := h
    obtain ⟨e, hu⟩ := isSl_und hT hs
    cases hx.inv_d with
    | sl0 A c => exact ⟨_, sl hu, rfl, .d (.int _ _), fun _ => .d _⟩
    | sl _ m b o cap f hc hm hb hl hv hd => exact ⟨_, sl hu, rfl, .d (.int _ _), fun _ => .d _⟩
  · rename_i n off len
    obtain ⟨hs, h⟩ := h
    have hn : ∃ m xs, H n = some (.arr m xs) ∧ v0 = .d (.int .i64 len) ∧ u0 = [] := by
      cases hn : H n with
      | none => simp [hn, onArr] at h
      | some o => cases o with
        | box c => simp [hn, onArr] at h
        | arr m xs => rw [hn] at h; exact ⟨m, xs, rfl, h.1.symm, h.2.symm⟩
    obtain ⟨m, xs, hn, rfl, rfl⟩ := hn
    obtain ⟨e, hu⟩ := isSl_und hT hs
    obtain ⟨A, c, rfl⟩ := own_slice hx hn
    exact ⟨_, sl hu, rfl, .d (.int _ _), fun _ => .d _⟩
  · obtain ⟨hs, rfl, rfl⟩ := h
    obtain ⟨e, hu⟩ := isSl_und hT hs
    cases hx
    exact ⟨_, sl hu, rfl, .d (.int _ _), fun _ => .d _⟩
  · exact h.elim

theorem bLess_eq_lt (a b : List UInt8) : Op.bytesLess a b = bLess a b := rfl

theorem min_sound {ts : Array Nat} {ty : Nat} {x y : V} {xv yv : Value} (hx : VRel w ok lam H x xv) (hy : VRel w ok lam H y yv) {v : V} (hm : minMax true x y = some v) (h : v0 = v ∧ u0 = []) :
    Quiet P w ok lam H q v0 u0 True (Builtin.min_ ts ty #[xv, yv]) := by
  obtain ⟨rfl, rfl⟩ := h
  unfold minMax at hm
  split at hm
  · split at hm
    · rename_i k a k' b hkk; subst hkk; simp at hm; subst hm
      cases hx.inv_d; cases hy.inv_d
      exact ⟨.int _ _, run_min_int2 _ _ _ _ _ _ _, rfl, .d (.int _ _), fun _ => .d _⟩
    · simp at hm
  · rename_i a b
    simp at hm; subst hm
    cases hx.inv_d with | str _ ha =>
    cases hy.inv_d with | str _ hb =>
    have e := bLess_total a b
    refine ⟨.string ⟨⟨bif bLess b a then b else a⟩⟩, ?_, rfl, .d (.str _ (by cases (bLess b a) <;> simpa)), fun _ => .d _⟩
    simp only [Builtin.min_, List.foldlM_cons, List.foldlM_nil, Builtin.min2, Op.stringOp, toList_mk, bLess_eq_lt, e, Sem.run_bind, Sem.run_pure, Result.andThen_ok, asBool]
    cases bLess b a <;> rfl
  · simp at hm

theorem max_sound {ts : Array Nat} {ty : Nat} {x y : V} {xv yv : Value} (hx : VRel w ok lam H x xv) (hy : VRel w ok lam H y yv) {v : V} (hm : minMax false x y = some v) (h : v0 = v ∧ u0 = []) :
    Quiet P w ok lam H q v0 u0 True (Builtin.max_ ts ty #[xv, yv]) := by
  obtain ⟨rfl, rfl⟩ := h
  unfold minMax at hm
  split at hm
  · split at hm
    · rename_i k a k' b hkk; subst hkk; simp at hm; subst hm
      cases hx.inv_d; cases hy.inv_d
      refine ⟨.int _ (if a < b then b else a), ?_, rfl, .d (.int _ _), fun _ => .d _⟩
      rw [run_max_int2]
    · simp at hm
  · rename_i a b
    simp at hm; subst hm
    cases hx.inv_d with | str _ ha =>
    cases hy.inv_d with | str _ hb =>
    refine ⟨.string ⟨⟨bif bLess a b then b else a⟩⟩, ?_, rfl, .d (.str _ (by cases bLess a b <;> simpa)), fun _ => .d _⟩
    simp [Builtin.max_, Builtin.max2, Op.stringOp, toList_mk, bLess_eq_lt, asBool]
    cases bLess a b <;> rfl
  · simp at hm

theorem byteCell_inv (l : List UInt8) : (l.map byteCell).map byteOf = l := by
  rw [List.map_map]
  conv => rhs; rw [← List.map_id l]
  apply List.map_congr_left
  intro b _
  simp [byteCell, byteOf]

theorem isPrefixD {ls : List Nat} {d : D} {v : Value} (h : DRel w (okB ok lam H ls) d v) : DRel w (fun _ => True) d v := h.mono (fun _ _ => rfl) fun _ _ => trivial

/-- string(b). -/
theorem bytes_sound {src dst e : Nat} {l : List UInt8} {xv : Value} {o : Nat → Prop} (hs : P.underlying src = some (.slice e)) (he : P.underlying e = some (.int .u8)) (hd : P.underlying dst = some .string)
    (hx : DRel w o (.sl (l.map byteCell)) xv) : (convert src dst xv).run P w = .ok (.string ⟨⟨l⟩⟩) w ∧ l.length ≤ LEN := by
  generalize hxs : l.map byteCell = xs at hx
  cases hx with
  | sl0 A c =>
    have : l = [] := by simpa using hxs
    subst this
    refine ⟨?_, by unfold LEN; simp⟩
    cases A with
    | none => rw [run_convert_bytes_string w src dst e none 0 c hs he hd]; rfl
    | some a => exact run_convert_bytes_back w src dst e a c [] hs he hd (fun j hj => by simp at hj)
  | sl _ m b o cap f hc hm hb hl hv hd' =>
    have hlen : xs.length = l.length := by rw [← hxs]; simp
    refine ⟨?_, by omega⟩
    rw [hlen]
    cases l with
    | nil => exact run_convert_bytes_back w src dst e ⟨b, o, none⟩ cap [] hs he hd (fun j hj => by simp at hj)
    | cons c0 l0 =>
      have hm1 : m = 1 := by rw [← hl (byteCell c0) (by rw [← hxs]; simp)]; rfl
      subst hm1
      refine run_convert_bytes_back w src dst e ⟨b, o, none⟩ cap (c0 :: l0) hs he hd fun j hj => ?_
      have hxj : xs[j]? = some (byteCell (c0 :: l0)[j]) := by rw [← hxs, List.getElem?_map, List.getElem?_eq_getElem hj]; rfl
      have h1 := hv j _ 0 _ hxj rfl
      have h2 := hd' j _ 0 _ hxj rfl
      rw [Addr.add_mid]
      simp only [Nat.mul_one, Nat.add_zero] at h1 h2
      rw [h1]
      generalize f j = y at h2
      cases h2
      rfl

end
end Go.Rx

namespace Go.Rx
open Go Go.RowKit

section
variable {P : Program} {T : Tys} {w : World} {ok : Nat → Prop} {lam : Nat → Option Nat} {H : Heap} {q : Nat → Prop} {v0 : V} {u0 : Upd}

theorem aggc_sound {x : V} {xv : Value} {cs : List V} (hx : VRel w ok lam H x xv) (h : x.aggc = some cs) : ∃ vs, xv = .agg ⟨vs⟩ ∧ Rel2 (VRel w ok lam H) cs vs ∧ (VGood q x → ∀ v ∈ cs, VGood q v) := by
  cases x with
  | agg l => simp [V.aggc] at h; subst h; obtain ⟨vs, rfl, hr⟩ := hx.inv_agg; exact ⟨vs, rfl, hr, fun hg => by cases hg with | agg hg => exact hg⟩
  | d y =>
    cases y with
    | agg ds => simp [V.aggc] at h; subst h; obtain ⟨vs, rfl, hr⟩ := ofD_agg hx.inv_d; exact ⟨vs, rfl, Rel2.dV hr, fun _ => good_map_d q _⟩
    | _ => simp [V.aggc] at h
  | _ => simp [V.aggc] at h

theorem field_sound (hT : TyOK P T) {t f off ft : Nat} (hf : fieldOff T t f = some (off, ft)) {x : V} {xv : Value} (hx : VRel w ok lam H x xv) (h : fieldVC T ft off x (eqK v0 u0)) :
    Quiet P w ok lam H q v0 u0 (VGood q x) (Instr.field t xv f) := by
  unfold fieldVC at h
  cases hc : x.aggc with
  | none => simp [hc, onSome] at h
  | some cs =>
    simp only [hc, onSome] at h
    obtain ⟨⟨hs, hpos, hone⟩, hkn, rfl, rfl⟩ := h
    obtain ⟨i, info, fs, z, fld, hTt, ht, hfl, rfl, rfl⟩ := fieldOff_some hT hf
    obtain ⟨vs, rfl, hr, hg⟩ := aggc_sound (q := q) hx hc
    obtain ⟨it, info2, d2, z2, hT2, ht2, hsz⟩ := sizeOfT_pos hT hpos
    have hlen := hr.1
    have hdrop := hr.drop fld.offset
    have hst := isStruct_kind hT2
    have hrun : ∀ c, (part fld.type ⟨vs⟩ fld.offset).run P w = .ok c w → (Instr.field t (.agg ⟨vs⟩) f).run P w = .ok c w := by
      intro c hc
      simp [Instr.field, ht.run_und, hfl, asAgg, hc]
    cases hk : it.kind.isRow with
    | true =>
      refine ⟨.agg ⟨(vs.drop fld.offset).take it.size⟩, hrun _ ?_, rfl, ?_, ?_⟩
      · simp [part, ht2.run_isAgg, hk, ht2.run_sizeOf]
      · simp only [loadC, hst, hk, cond_true, hsz]; exact VRel.mkAgg (hdrop.take _)
      · intro hg'
        simp only [loadC, hst, hk, cond_true]
        exact .agg fun v hv => hg hg' v (List.mem_of_mem_drop (List.mem_of_mem_take hv))
    | false =>
      have h1 : it.size = 1 := by simpa [hst, hk, hsz] using hone
      have hlt : fld.offset < vs.length := by omega
      have hget : vs[fld.offset]? = some vs[fld.offset] := List.getElem?_eq_getElem hlt
      obtain ⟨x, hx, hxv⟩ := hr.get' hget
      refine ⟨vs[fld.offset], hrun _ (part_run ht2 hk hget), rfl, ?_, ?_⟩
      · simp only [loadC, hst, hk, cond_false]
        have : (cs.drop fld.offset)[0]? = some x := by simpa using hx
        cases hd : cs.drop fld.offset with
        | nil => simp [hd] at this
        | cons y l => simp [hd] at this; subst this; exact hxv
      · intro hg'
        simp only [loadC, hst, hk, cond_false]
        cases hd : cs.drop fld.offset with
        | nil => exact .dead
        | cons y l => exact hg hg' y (List.mem_of_mem_drop (i := fld.offset) (by rw [hd]; exact List.mem_cons_self))

def splice {α : Type} (l : List α) (off : Nat) (vs : List α) : List α := l.take off ++ vs ++ l.drop (off + vs.length)

theorem Rel2.splice {α β : Type} {R : α → β → Prop} {l m : List α} {l' m' : List β} (h : Rel2 R l l') (h2 : Rel2 R m m') (off : Nat) : Rel2 R (splice l off m) (splice l' off m') := by
  unfold Go.Rx.splice
  rw [h2.1]
  exact ((h.take off).append h2).append (h.drop _)

theorem fold_splice : ∀ (vs : List Value) (k off : Nat) (cells : Array Value), off + k + vs.length ≤ cells.size →
    ((vs.zipIdx k).foldl (fun cs p => cs.setIfInBounds (off + p.2) p.1) cells).toList = splice cells.toList (off + k) vs := by
  intro vs
  induction vs with
  | nil => intro k off cells h; simp [splice]
  | cons v vs ih =>
    intro k off cells h
    simp only [List.zipIdx_cons, List.foldl_cons]
    rw [ih (k + 1) off _ (by simp at h ⊢; omega)]
    simp only [List.length_cons] at h
    have hlt : off + k < cells.toList.length := by simp; omega
    simp only [splice, Array.toList_setIfInBounds, List.length_cons]
    rw [show off + (k + 1) = off + k + 1 by omega, show off + k + (vs.length + 1) = off + k + 1 + vs.length by omega]
    rw [List.take_succ_eq_append_getElem (by simpa using hlt)]
    simp only [List.getElem_set_self, List.take_set_of_le (Nat.le_refl _), List.drop_set_of_lt (show off + k < off + k + 1 + vs.length by omega), List.append_assoc, List.singleton_append]

theorem fold_array (v : Value) (off : Nat) (cells : Array Value) (h : off + v.cells.size ≤ cells.size) :
    (v.cells.zipIdx.foldl (fun cs (c, j) => cs.setIfInBounds (off + j) c) cells) = ⟨splice cells.toList off v.cells.toList⟩ := by
  apply Array.ext'
  have := fold_splice v.cells.toList 0 off cells (by simpa using h)
  simp only [Nat.add_zero] at this
  rw [← this, ← Array.foldl_toList, Array.toList_zipIdx]

theorem setAt_splice (cs : List V) (off : Nat) (vs : List V) : setAt cs off vs = splice cs off vs := rfl

theorem build_fill {fs : List (Nat × Nat)} {n : Nat} {place : Nat → Option (Nat × Nat)} (hpl : ∀ (i : Nat) off t, fs[i]? = some (off, t) → known T t = true → place i = some (off, sizeOfT T t)) :
    ∀ (ps : List (Nat × V)) (ps' : List (Nat × Value)) (cs : List V) (vs : List Value) (cs' : List V), Rel2 (VRel w ok lam H) cs vs → cs.length = n →
      Rel2 (fun a b => a.1 = b.1 ∧ VRel w ok lam H a.2 b.2) ps ps' → buildC T fs n cs ps = some cs' →
      ∃ vs', Instr.fill place ⟨vs⟩ ps' = some ⟨vs'⟩ ∧ Rel2 (VRel w ok lam H) cs' vs' ∧ ((∀ v ∈ cs, VGood q v) → (∀ p ∈ ps, VGood q p.2) → ∀ v ∈ cs', VGood q v) := by
  intro ps
  induction ps with
  | nil =>
    intro ps' cs vs cs' hr hn hp h
    rw [hp.nil_left]
    simp [buildC] at h; subst h
    exact ⟨vs, rfl, hr, fun hg _ => hg⟩
  | cons p ps ih =>
    intro ps' cs vs cs' hr hn hp h
    obtain ⟨i, x⟩ := p
    obtain ⟨⟨i', xv⟩, rest, rfl, ⟨hi, hx⟩, hrest⟩ := hp.uncons
    obtain rfl : i = i' := hi
    simp only [buildC] at h
    cases hf : fs[i]? with
    | none => simp [hf] at h
    | some ot =>
      obtain ⟨off, t⟩ := ot
      cases hc : x.cells with
      | none => simp [hf, hc] at h
      | some xs =>
        simp only [hf, hc] at h
        cases hcond : (xs.length == sizeOfT T t && (off + xs.length).ble n && known T t) with
        | false => simp [hcond] at h
        | true =>
          simp only [hcond, cond_true] at h
          simp only [Bool.and_eq_true, beq_iff_eq, Nat.ble_eq] at hcond
          obtain ⟨⟨h1, h2⟩, h3⟩ := hcond
          have hxc := V.cells_sound hx hc
          have hxl : xv.cells.size = xs.length := by have := hxc.1; simp at this; omega
          have hvl : vs.length = n := by rw [← hr.1]; exact hn
          have hsz : off + xv.cells.size ≤ (⟨vs⟩ : Array Value).size := by simp; omega
          have hfold := fold_array xv off ⟨vs⟩ hsz
          have hlen' : (setAt cs off xs).length = n := by simp [setAt]; omega
          obtain ⟨vs', hf', hr', hg'⟩ := ih rest (setAt cs off xs) (splice vs off xv.cells.toList) cs' (hr.splice hxc off) hlen' hrest h
          refine ⟨vs', ?_, hr', fun hg1 hg2 => hg' (fun v hv => ?_) fun p hp => hg2 p (List.mem_cons_of_mem _ hp)⟩
          · simp only [Instr.fill, hpl i off t hf h3]
            rw [if_neg (by simp only [ne_eq, decide_not, Bool.or_eq_true, decide_eq_true_eq, not_or]; simp; omega)]
            rw [hfold]
            exact hf'
          · simp only [setAt, List.mem_append] at hv
            rcases hv with (hv | hv) | hv
            · exact hg1 v (List.mem_of_mem_take hv)
            · have hgx := hg2 (i, x) List.mem_cons_self
              cases x <;> simp only [V.cells] at hc <;> first
                | (simp at hc; done)
                | (simp at hc; subst hc; simp at hv; subst hv; exact hgx)
                | (simp at hc; subst hc; cases hgx with | agg hgx => exact hgx v hv)
                | skip
              rename_i y
              cases y <;> simp only [V.cells] at hc <;> first
                | (simp at hc; done)
                | (simp at hc; subst hc; simp at hv; obtain ⟨z, _, rfl⟩ := hv; exact .d _)
                | (simp at hc; subst hc; simp at hv; subst hv; exact hgx)
            · exact hg1 v (List.mem_of_mem_drop hv)

theorem zeroV_rel : ∀ {zs : List Z} {vs : List Value}, Rel2 Z.rel zs vs → Rel2 (VRel w ok lam H) (zeroV zs) vs := by
  intro zs
  induction zs with
  | nil => intro vs h; rw [h.nil_left]; exact Rel2.nil _
  | cons z zs ih =>
    intro vs h
    obtain ⟨v, m, rfl, hv, hm⟩ := h.uncons
    cases z with
    | d x => exact Rel2.cons (.d (hv w ok)) (ih hm)
    | nils m' => exact Rel2.cons (by have : v = .slice none 0 0 := hv; subst this; exact .nils) (ih hm)

theorem zeroV_good : ∀ (zs : List Z), ∀ v ∈ zeroV zs, VGood q v := by
  intro zs
  induction zs with
  | nil => intro v hv; simp [zeroV] at hv
  | cons z zs ih =>
    intro v hv
    cases z <;> simp [zeroV] at hv <;> rcases hv with rfl | hv
    · exact .d _
    · exact ih v hv
    · exact .nils
    · exact ih v hv

theorem zeroV_length : ∀ (zs : List Z), (zeroV zs).length = zs.length := by
  intro zs; induction zs with
  | nil => rfl
  | cons z zs ih => cases z <;> simp [zeroV, ih]

theorem mapM_known (hT : TyOK P T) : ∀ (fs : List Go.Field), (∀ f ∈ fs, known T f.type = true) → fs.mapM (fun f => (P.info? f.type).map fun i => (f.offset, i.size)) = some (fs.map fun f => (f.offset, sizeOfT T f.type)) := by
  intro fs
  induction fs with
  | nil => intro _; rfl
  | cons f fs ih =>
    intro h
    have hk := h f List.mem_cons_self
    unfold known at hk
    cases hi : T f.type with
    | none => simp [hi] at hk
    | some i =>
      obtain ⟨info, d, z, ha⟩ := hT _ i hi
      rw [List.mapM_cons, ih fun f hf => h f (List.mem_cons_of_mem _ hf)]
      simp [ha.inf, ha.size, sizeOfT, hi]

theorem build_sound (hT : TyOK P T) {t : Nat} {fs : List (Nat × Nat)} {n : Nat} {zs : List Z} (hst : structOf (T t) = some (fs, n, zs)) (hzn : zs.length = n) (hall : (fs.all fun q => known T q.2) = true)
    {ps : List (Nat × V)} {ps' : Array (Nat × Value)} (hp : Rel2 (fun a b => a.1 = b.1 ∧ VRel w ok lam H a.2 b.2) ps ps'.toList) {cs : List V} (hb : buildC T fs n (zeroV zs) ps = some cs) (h : v0 = .agg cs ∧ u0 = []) :
    Quiet P w ok lam H q v0 u0 (∀ p ∈ ps, VGood q p.2) (Instr.build t ps') := by
  obtain ⟨rfl, rfl⟩ := h
  unfold structOf at hst
  split at hst
  · rename_i n' b' fs' z' hTt
    simp at hst
    obtain ⟨rfl, rfl, rfl⟩ := hst
    obtain ⟨info, d, z, ha⟩ := hT t _ hTt
    obtain ⟨fl, rfl, hfl⟩ := kindOK_struct ha.kind
    have hk : ∀ f ∈ fl.toList, known T f.type = true := fun f hf => by
      have := List.all_eq_true.1 hall (f.offset, f.type) (by rw [← hfl]; exact List.mem_map.2 ⟨f, hf, rfl⟩)
      exact this
    have hmm := mapM_known hT fl.toList hk
    obtain ⟨vs, hfill, hr, hg⟩ := build_fill (w := w) (ok := ok) (lam := lam) (H := H) (q := q) (fs := fs') (n := n') (place := ((fl.toList.map fun f => (f.offset, sizeOfT T f.type)).toArray[·]?)) (fun i off t hi _ => by
        rw [← hfl, List.getElem?_map] at hi
        cases hx : fl.toList[i]? with
        | none => simp [hx] at hi
        | some f => simp [hx] at hi; obtain ⟨rfl, rfl⟩ := hi; simp at hx; simp [hx]) ps ps'.toList _ z.cells.toList cs (zeroV_rel ha.zrel) (by rw [zeroV_length]; exact hzn) hp hb
    refine ⟨.agg ⟨vs⟩, run_build w t ps' ⟨vs⟩ ?_, rfl, VRel.mkAgg hr, fun hgp => .agg (hg (zeroV_good _) hgp)⟩
    unfold Program.built
    rw [ha.inf, ha.und]
    simp only [ha.zero, hmm]
    exact hfill
  · simp at hst

theorem nil_sound {x : V} {xv : Value} (hx : VRel w ok lam H x xv) (h : nilVC H x (eqK v0 u0)) :
    v0 = x ∧ u0 = [] ∧ ((∃ A, xv = .pointer (some A)) ∨ ∃ f a b, xv = .func (.func f) a b) := by
  unfold nilVC at h
  split at h
  · rename_i n off
    cases hn : H n with
    | none => simp [hn, onObj] at h
    | some o =>
      simp only [hn, onObj] at h
      obtain ⟨rfl, rfl⟩ := h
      cases hx with | ref _ hx =>
      obtain ⟨b, _, rfl⟩ := hx o hn
      exact ⟨rfl, rfl, .inl ⟨_, rfl⟩⟩
  · rename_i n i j
    cases hn : H n with
    | none => simp [hn, onArr] at h
    | some o =>
      cases o with
      | box c => simp [hn, onArr] at h
      | arr m xs =>
        simp only [hn, onArr] at h
        obtain ⟨rfl, rfl⟩ := h
        cases hx with | el _ hx =>
        obtain ⟨_, b, _, rfl⟩ := hx m xs hn
        exact ⟨rfl, rfl, .inl ⟨_, rfl⟩⟩
  · obtain ⟨rfl, rfl⟩ := h; cases hx.inv_d; exact ⟨rfl, rfl, .inl ⟨_, rfl⟩⟩
  · obtain ⟨rfl, rfl⟩ := h; cases hx.inv_d; exact ⟨rfl, rfl, .inr ⟨_, _, _, rfl⟩⟩
  · obtain ⟨rfl, rfl⟩ := h; cases hx; exact ⟨rfl, rfl, .inr ⟨_, _, _, rfl⟩⟩
  · exact h.elim

end
end Go.Rx

namespace Go.Rx
open Go Go.RowKit

def updF (u : Upd) (H : Heap) : Heap := u.foldl (fun h p => fun n => if p.1 = n then p.2 else h n) H

structure Chg (p : Nat → Prop) (w : World) (ok : Nat → Prop) (lam : Nat → Option Nat) (H : Heap) (w' : World) (ok' : Nat → Prop) (lam' : Nat → Option Nat) (H' : Heap) : Prop where
  hw : ∀ b, ok b → w'.heap[b]? = w.heap[b]?
  hok : ∀ b, ok b → ok' b
  hl : ∀ n, p n → H' n ≠ none → lam' n = lam n
  hbox : ∀ n, p n → ∀ c', H' n = some (.box c') → ∃ c, H n = some (.box c)
  harr : ∀ n, p n → ∀ m xs', H' n = some (.arr m xs') → ∃ xs, H n = some (.arr m xs) ∧ xs.length = xs'.length
  hsz : ∀ n b cs T fr m xs', p n → H' n = some (.arr m xs') → lam n = some b → w.heap[b]? = some (.cells cs T fr) → ∃ cs' T' fr', w'.heap[b]? = some (.cells cs' T' fr') ∧ cs'.size = cs.size

section
variable {p : Nat → Prop} {w w' : World} {ok ok' : Nat → Prop} {lam lam' : Nat → Option Nat} {H H' : Heap}

theorem Chg.v (h : Chg p w ok lam H w' ok' lam' H') {x : V} {v : Value} (hx : VRel w ok lam H x v) (hg : VGood p x) : VRel w' ok' lam' H' x v :=
  hx.mono hg h.hw h.hok h.hl h.hbox h.harr h.hsz

/-- Old blocks and old names are as they were (or the names are gone). -/
theorem Chg.of_old (hblk : ∀ b, b < w.heap.size → w'.heap[b]? = w.heap[b]?) (hlt : ∀ b, ok b → b < w.heap.size) (hok : ∀ b, ok b → ok' b)
    (hH : ∀ n, p n → H' n = none ∨ H' n = H n) (hl : ∀ n, p n → H' n ≠ none → lam' n = lam n) : Chg p w ok lam H w' ok' lam' H' where
  hw b hb := hblk b (hlt b hb)
  hok := hok
  hl := hl
  hbox n hp c' hc := by
    rcases hH n hp with h | h
    · rw [h] at hc; cases hc
    · exact ⟨c', by rw [← h]; exact hc⟩
  harr n hp m xs' hc := by
    rcases hH n hp with h | h
    · rw [h] at hc; cases hc
    · exact ⟨xs', by rw [← h]; exact hc, rfl⟩
  hsz n b cs T fr m xs' hp _ _ hb := by
    have hlt : b < w.heap.size := by
      rcases Nat.lt_or_ge b w.heap.size with h | h
      · exact h
      · simp [Array.getElem?_eq_none h] at hb
    exact ⟨cs, T, fr, by rw [hblk b hlt]; exact hb, rfl⟩

theorem ObjRel.chg (h : Chg p w ok lam H w' ok' lam' H') {n : Nat} {o : AObj} (hp : p n) (hne : H' n ≠ none) (hg : OGood p o) (hb : ∀ b, lam n = some b → w'.heap[b]? = w.heap[b]?) (ho : ObjRel w ok lam H n o) :
    ObjRel w' ok' lam' H' n o := by
  cases o with
  | box cells =>
    obtain ⟨b, cs, T, h1, h2, h3, h4⟩ := ho
    exact ⟨b, cs, T, (h.hl n hp hne).trans h1, (hb b h1).trans h2, h3, fun i v c hv hc => h.v (h4 i v c hv hc) (hg v (List.mem_of_getElem? hv))⟩
  | arr m xs =>
    obtain ⟨h0, hm, hc⟩ := ho
    refine ⟨h0, hm, ?_⟩
    rcases hc with ⟨h1, h2⟩ | ⟨b, cs, T, fr, h1, h2, h3, h4, h5⟩
    · exact .inl ⟨(h.hl n hp hne).trans h1, h2⟩
    · refine .inr ⟨b, cs, T, fr, (h.hl n hp hne).trans h1, (hb b h1).trans h2, fun i hi => ?_, h4, fun i e j d hi hj => ?_⟩
      · rw [World.frozen?_of_block (w := w) (hb b h1)]; exact h3 i hi
      · obtain ⟨c, hc, hd⟩ := h5 i e j d hi hj
        exact ⟨c, hc, hd.mono h.hw h.hok⟩

/-- What an operation needs of the state ahead of it. -/
structure Ctx (okIn U : Nat → Prop) (w0 : World) (p : Nat → Prop) (w : World) (ok : Nat → Prop) (lam : Nat → Option Nat) (H : Heap) : Prop where
  hok : HOK w ok lam H
  good : ∀ n o, H n = some o → OGood p o
  dom : ∀ n, H n ≠ none → p n
  okb : ∀ b, ok b → okIn b ∨ U b ∨ w0.heap.size ≤ b
  ownb : ∀ n b, H n ≠ none → lam n = some b → U b ∨ w0.heap.size ≤ b
  size : w0.heap.size ≤ w.heap.size

def Fr2 (U : Nat → Prop) (w0 w w' : World) : Prop := Fr (fun b => U b ∨ w0.heap.size ≤ b) w w'

/-- The state behind it. -/
structure Eff (okIn U : Nat → Prop) (w0 : World) (p p' : Nat → Prop) (w : World) (ok : Nat → Prop) (lam : Nat → Option Nat) (H : Heap) (v0 : V) (H' : Heap) (w' : World) (cv : Value) (lam' : Nat → Option Nat) (ok' : Nat → Prop) : Prop where
  ctx : Ctx okIn U w0 p' w' ok' lam' H'
  val : VRel w' ok' lam' H' v0 cv
  vgood : VGood p' v0
  fr : Fr2 U w0 w w'
  stab : ∀ x v, VGood p x → VRel w ok lam H x v → VRel w' ok' lam' H' x v

variable {okIn U : Nat → Prop} {w0 : World} {p' : Nat → Prop} {v0 : V} {cv : Value}

theorem Eff.quiet (h : Ctx okIn U w0 p w ok lam H) (hpp : ∀ n, p n → p' n) (hv : VRel w ok lam H v0 cv) (hg : VGood p v0) : Eff okIn U w0 p p' w ok lam H v0 H w cv lam ok where
  ctx := ⟨h.hok, fun n o ho => (h.good n o ho).mono hpp, fun n hn => hpp n (h.dom n hn), h.okb, h.ownb, h.size⟩
  val := hv
  vgood := hg.mono hpp
  fr := Fr.refl _ _
  stab _ _ _ hx := hx

/-- A new name for an array without elements. -/
theorem HOK.addNil (h : HOK w ok lam H) {n m : Nat} (hn : H n = none) (hp : ¬ p n) (hg : ∀ k o, H k = some o → OGood p o) (hd : ∀ k, H k ≠ none → p k) :
    HOK w ok (fun k => if k = n then none else lam k) (fun k => if n = k then some (.arr m []) else H k) ∧
    Chg p w ok lam H w ok (fun k => if k = n then none else lam k) (fun k => if n = k then some (.arr m []) else H k) := by
  have hc : Chg p w ok lam H w ok (fun k => if k = n then none else lam k) (fun k => if n = k then some (.arr m []) else H k) :=
    Chg.of_old (fun _ _ => rfl) h.oklt (fun _ h => h) (fun k hk => .inr (by rw [if_neg (fun (e : n = k) => hp (e.symm ▸ hk))])) (fun k hk _ => by rw [if_neg (fun (e : k = n) => hp (e ▸ hk))])
  refine ⟨⟨fun a b c ha hb h1 h2 => ?_, fun a b ha h1 => ?_, fun a b ha h1 => ?_, h.oklt, fun a o ha => ?_⟩, hc⟩
  · by_cases e1 : a = n
    · simp [e1] at h1
    · by_cases e2 : b = n
      · simp [e2] at h2
      · rw [if_neg e1] at h1; rw [if_neg e2] at h2; rw [if_neg (Ne.symm e1)] at ha; rw [if_neg (Ne.symm e2)] at hb
        exact h.inj a b c ha hb h1 h2
  · by_cases e1 : a = n
    · simp [e1] at h1
    · rw [if_neg e1] at h1; rw [if_neg (Ne.symm e1)] at ha; exact h.lt a b ha h1
  · by_cases e1 : a = n
    · simp [e1] at h1
    · rw [if_neg e1] at h1; rw [if_neg (Ne.symm e1)] at ha; exact h.dis a b ha h1
  · by_cases e1 : a = n
    · subst e1
      simp at ha; subst ha
      exact ⟨by simp, by simp, .inl ⟨by simp, rfl⟩⟩
    · rw [if_neg (Ne.symm e1)] at ha
      exact ObjRel.chg hc (hd a (by rw [ha]; simp)) (by rw [if_neg (Ne.symm e1), ha]; simp) (hg a o ha) (fun _ _ => rfl) (h.obj a o ha)

/-- A new name for an object in a new block. -/
theorem HOK.addNew (h : HOK w ok lam H) {n : Nat} {o : AObj} (hn : H n = none) (hp : ¬ p n) (hg : ∀ k o, H k = some o → OGood p o) (hd : ∀ k, H k ≠ none → p k)
    (hblk : ∀ b, b < w.heap.size → w'.heap[b]? = w.heap[b]?) (hsz : w.heap.size < w'.heap.size)
    (ho : Chg p w ok lam H w' ok (fun k => if k = n then some w.heap.size else lam k) (fun k => if n = k then some o else H k) →
      ObjRel w' ok (fun k => if k = n then some w.heap.size else lam k) (fun k => if n = k then some o else H k) n o) :
    HOK w' ok (fun k => if k = n then some w.heap.size else lam k) (fun k => if n = k then some o else H k) ∧
    Chg p w ok lam H w' ok (fun k => if k = n then some w.heap.size else lam k) (fun k => if n = k then some o else H k) := by
  have hc : Chg p w ok lam H w' ok (fun k => if k = n then some w.heap.size else lam k) (fun k => if n = k then some o else H k) :=
    Chg.of_old hblk h.oklt (fun _ h => h) (fun k hk => .inr (by rw [if_neg (fun (e : n = k) => hp (e.symm ▸ hk))])) (fun k hk _ => by rw [if_neg (fun (e : k = n) => hp (e ▸ hk))])
  refine ⟨⟨fun a b c ha hb h1 h2 => ?_, fun a b ha h1 => ?_, fun a b ha h1 => ?_, fun b hb => Nat.lt_trans (h.oklt b hb) hsz, fun a o' ha => ?_⟩, hc⟩
  · by_cases e1 : a = n
    · by_cases e2 : b = n
      · rw [e1, e2]
      · rw [if_pos e1] at h1; rw [if_neg e2] at h2; rw [if_neg (Ne.symm e2)] at hb
        have := h.lt b c hb h2
        simp at h1; omega
    · by_cases e2 : b = n
      · rw [if_pos e2] at h2; rw [if_neg e1] at h1; rw [if_neg (Ne.symm e1)] at ha
        have := h.lt a c ha h1
        simp at h2; omega
      · rw [if_neg e1] at h1; rw [if_neg e2] at h2; rw [if_neg (Ne.symm e1)] at ha; rw [if_neg (Ne.symm e2)] at hb
        exact h.inj a b c ha hb h1 h2
  · by_cases e1 : a = n
    · rw [if_pos e1] at h1; simp at h1; omega
    · rw [if_neg e1] at h1; rw [if_neg (Ne.symm e1)] at ha; exact Nat.lt_trans (h.lt a b ha h1) hsz
  · by_cases e1 : a = n
    · rw [if_pos e1] at h1; intro hb; have := h.oklt b hb; simp at h1; omega
    · rw [if_neg e1] at h1; rw [if_neg (Ne.symm e1)] at ha; exact h.dis a b ha h1
  · by_cases e1 : a = n
    · subst e1
      simp at ha; subst ha
      exact ho hc
    · rw [if_neg (Ne.symm e1)] at ha
      exact ObjRel.chg hc (hd a (by rw [ha]; simp)) (by rw [if_neg (Ne.symm e1), ha]; simp) (hg a o' ha) (fun b hb => hblk b (h.lt a b (by rw [ha]; simp) hb)) (h.obj a o' ha)

def remF (ls : List Nat) (H : Heap) : Heap := fun n => if n ∈ ls then none else H n

/-- Names let go: what they owned may be read. -/
theorem HOK.rem (h : HOK w ok lam H) (ls : List Nat) (hg : ∀ k o, H k = some o → OGood p o) (hd : ∀ k, H k ≠ none → p k) :
    HOK w (okB ok lam H ls) lam (remF ls H) ∧ Chg p w ok lam H w (okB ok lam H ls) lam (remF ls H) := by
  have hc : Chg p w ok lam H w (okB ok lam H ls) lam (remF ls H) :=
    Chg.of_old (fun _ _ => rfl) h.oklt (fun _ h => .inl h) (fun k _ => by unfold remF; split <;> simp) (fun _ _ _ => rfl)
  have hne : ∀ a, remF ls H a ≠ none → a ∉ ls ∧ H a ≠ none := fun a ha => by
    unfold remF at ha; split at ha
    · simp at ha
    · exact ⟨‹_›, ha⟩
  refine ⟨⟨fun a b c ha hb h1 h2 => h.inj a b c (hne a ha).2 (hne b hb).2 h1 h2, fun a b ha h1 => h.lt a b (hne a ha).2 h1, fun a b ha h1 hb => ?_, fun b hb => ?_, fun a o ha => ?_⟩, hc⟩
  · rcases hb with hb | ⟨k, hk, hk1, hk2⟩
    · exact h.dis a b (hne a ha).2 h1 hb
    · have := h.inj a k b (hne a ha).2 hk1 h1 hk2
      exact (hne a ha).1 (this ▸ hk)
  · rcases hb with hb | ⟨k, hk, hk1, hk2⟩
    · exact h.oklt b hb
    · exact h.lt k b hk1 hk2
  · have hna : remF ls H a ≠ none := by rw [ha]; simp
    have ha' : H a = some o := by have h2 := (hne a hna).1; unfold remF at ha; rw [if_neg h2] at ha; exact ha
    exact ObjRel.chg hc (hd a (hne a hna).2) hna (hg a o ha') (fun _ _ => rfl) (h.obj a o ha')

end
end Go.Rx

namespace Go.Rx
open Go Go.RowKit

section
variable {p : Nat → Prop} {w w' : World} {ok ok' : Nat → Prop} {lam lam' : Nat → Option Nat} {H H' : Heap}

theorem updF_append (u u' : Upd) (H : Heap) : updF (u ++ u') H = updF u' (updF u H) := by simp [updF, List.foldl_append]
theorem updF_cons (x : Nat × Option AObj) (u : Upd) (H : Heap) : updF (x :: u) H = updF u (fun n => if x.1 = n then x.2 else H n) := rfl
theorem updF_nil (H : Heap) : updF [] H = H := rfl
theorem updF_one (n : Nat) (o : Option AObj) (H : Heap) : updF [(n, o)] H = fun k => if n = k then o else H k := rfl

theorem updF_rem (ls : List Nat) (H : Heap) : updF (ls.map (·, none)) H = remF ls H := by
  induction ls generalizing H with
  | nil => funext n; simp [updF, remF]
  | cons k ls ih =>
    rw [List.map_cons, updF_cons, ih]
    funext n
    unfold remF
    by_cases h1 : n ∈ ls
    · simp [h1]
    · by_cases h2 : k = n
      · simp [h2]
      · simp [h1, h2, Ne.symm h2]

theorem setCells_heap (b : Nat) (T : TypeId) (fr : Nat × Nat) : ∀ (vs : List Value) (o : Nat) (w : World) (cs : List Value), w.heap[b]? = some (.cells ⟨cs⟩ T fr) → o + vs.length ≤ cs.length →
    (w.setCells b o vs).heap[b]? = some (.cells ⟨splice cs o vs⟩ T fr) := by
  intro vs
  induction vs with
  | nil => intro o w cs h hl; simp only [World.setCells, splice]; simp [h]
  | cons v vs ih =>
    intro o w cs h hl
    simp only [World.setCells]
    have h1 : (w.setCell ⟨b, o, none⟩ v).heap[b]? = some (.cells ⟨cs.set o v⟩ T fr) := by
      simp only [World.setCell, Array.getElem?_modify, if_true, h, Option.map_some]
      simp
    rw [ih (o + 1) _ (cs.set o v) h1 (by simp at hl ⊢; omega)]
    congr 3
    have hlt : o < cs.length := by simp at hl; omega
    simp only [splice, List.length_cons]
    rw [show o + (vs.length + 1) = o + 1 + vs.length by omega, List.take_succ_eq_append_getElem (by simpa using hlt)]
    simp only [List.getElem_set_self, List.take_set_of_le (Nat.le_refl _), List.drop_set_of_lt (show o < o + 1 + vs.length by omega), List.append_assoc, List.singleton_append]

theorem setCells_other (b : Nat) : ∀ (vs : List Value) (o : Nat) (w : World) (k : Nat), k ≠ b → (w.setCells b o vs).heap[k]? = w.heap[k]? := by
  intro vs
  induction vs with
  | nil => intro o w k _; rfl
  | cons v vs ih =>
    intro o w k hk
    simp only [World.setCells]
    rw [ih (o + 1) _ k hk]
    exact heap_setCell_other w ⟨b, o, none⟩ k v hk

theorem setCells_meta (b : Nat) : ∀ (vs : List Value) (o : Nat) (w : World), (w.setCells b o vs).heap.size = w.heap.size ∧ (w.setCells b o vs).os = w.os ∧ (w.setCells b o vs).tape = w.tape ∧ (w.setCells b o vs).output = w.output := by
  intro vs
  induction vs with
  | nil => intro o w; exact ⟨rfl, rfl, rfl, rfl⟩
  | cons v vs ih => intro o w; simp only [World.setCells]; obtain ⟨h1, h2, h3, h4⟩ := ih (o + 1) (w.setCell ⟨b, o, none⟩ v); exact ⟨h1.trans (by simp), h2, h3, h4⟩

theorem setCells_sized {w : World} {b o : Nat} {T : TypeId} {fr : Nat × Nat} {vs cs : List Value} (hb : w.heap[b]? = some (.cells ⟨cs⟩ T fr)) (hl : o + vs.length ≤ cs.length) : Sized w (w.setCells b o vs) :=
  sized_one (setCells_heap b T fr vs o w cs hb hl) (fun cs' T' fr' h => by rw [hb] at h; cases h; simp [splice]; omega) fun k _ hk => setCells_other b vs o w k hk

/-- An object of ours is written anew, in its block. -/
theorem HOK.upd (h : HOK w ok lam H) {n b : Nat} {o o' : AObj} (hn : H n = some o) (hl : lam n = some b) (hg : ∀ k o, H k = some o → OGood p o) (hd : ∀ k, H k ≠ none → p k)
    (hother : ∀ k, k ≠ b → w'.heap[k]? = w.heap[k]?) (hsz : w'.heap.size = w.heap.size)
    (hblk : ∀ cs T fr, w.heap[b]? = some (.cells cs T fr) → ∃ cs' T' fr', w'.heap[b]? = some (.cells cs' T' fr') ∧ cs'.size = cs.size)
    (hkind : (∃ c c', o = .box c ∧ o' = .box c') ∨ (∃ m xs xs', o = .arr m xs ∧ o' = .arr m xs' ∧ xs.length = xs'.length))
    (ho : Chg p w ok lam H w' ok lam (fun k => if n = k then some o' else H k) → ObjRel w' ok lam (fun k => if n = k then some o' else H k) n o') :
    HOK w' ok lam (fun k => if n = k then some o' else H k) ∧ Chg p w ok lam H w' ok lam (fun k => if n = k then some o' else H k) := by
  have hnb : ∀ c, ok c → c ≠ b := fun c hc e => h.dis n b (by rw [hn]; simp) hl (e ▸ hc)
  have hne : ∀ a, (if n = a then some o' else H a) ≠ none → H a ≠ none := fun a ha => by
    by_cases e : n = a
    · subst e; rw [hn]; simp
    · rw [if_neg e] at ha; exact ha
  have hc : Chg p w ok lam H w' ok lam (fun k => if n = k then some o' else H k) := by
    refine ⟨fun c hc => hother c (hnb c hc), fun _ h => h, fun _ _ _ => rfl, fun a _ c' hc => ?_, fun a _ m xs' hc => ?_, fun a c cs T fr _ _ _ ha h1 h2 => ?_⟩
    · by_cases e : n = a
      · subst e
        simp at hc
        rcases hkind with ⟨c, c2, rfl, rfl⟩ | ⟨m, xs, xs', rfl, rfl, _⟩
        · exact ⟨c, hn⟩
        · cases hc
      · simp only [if_neg e] at hc; exact ⟨c', hc⟩
    · by_cases e : n = a
      · subst e
        simp at hc
        rcases hkind with ⟨c, c2, rfl, rfl⟩ | ⟨m2, xs, xs2, rfl, rfl, hlen⟩
        · cases hc
        · cases hc; exact ⟨xs, hn, hlen⟩
      · simp only [if_neg e] at hc; exact ⟨xs', hc, rfl⟩
    · by_cases e : c = b
      · subst e; exact hblk cs T fr h2
      · exact ⟨cs, T, fr, by rw [hother c e]; exact h2, rfl⟩
  refine ⟨⟨fun a c d ha hc' h1 h2 => h.inj a c d (hne a ha) (hne c hc') h1 h2, fun a c ha h1 => hsz ▸ h.lt a c (hne a ha) h1, fun a c ha h1 => h.dis a c (hne a ha) h1, fun c hc => hsz ▸ h.oklt c hc, fun a x ha => ?_⟩, hc⟩
  by_cases e : n = a
  · subst e; simp at ha; subst ha; exact ho hc
  · have ha' : H a = some x := by rw [if_neg e] at ha; exact ha
    exact ObjRel.chg hc (hd a (by rw [ha']; simp)) (by rw [if_neg e, ha']; simp) (hg a x ha') (fun c hc => hother c (fun e2 => e (h.inj n a b (by rw [hn]; simp) (by rw [ha']; simp) hl (e2 ▸ hc)))) (h.obj a x ha')

/-- Cells for a box: each nil slice becomes an array of ours without elements. -/
theorem mkBox_sound {tb : Nat} : ∀ (vs : List V) (vals : List Value) (zs : List Z) (k : Nat) (p : Nat → Prop) (lam : Nat → Option Nat) (H : Heap),
    HOK w ok lam H → (∀ k o, H k = some o → OGood p o) → (∀ k, H k ≠ none → p k) → (∀ j, k ≤ j → j < k + vs.length → ¬ p (tb + 1 + j)) →
    Rel2 (VRel w ok lam H) vs vals → (∀ v ∈ vs, VGood p v) →
    ∃ lam', HOK w ok lam' (updF (mkBox tb k vs zs).2 H) ∧ Chg p w ok lam H w ok lam' (updF (mkBox tb k vs zs).2 H) ∧
      Rel2 (VRel w ok lam' (updF (mkBox tb k vs zs).2 H)) (mkBox tb k vs zs).1 vals ∧
      (∀ v ∈ (mkBox tb k vs zs).1, VGood (fun n => p n ∨ tb + 1 + k ≤ n ∧ n < tb + 1 + k + vs.length) v) ∧
      (∀ n o, updF (mkBox tb k vs zs).2 H n = some o → OGood (fun n => p n ∨ tb + 1 + k ≤ n ∧ n < tb + 1 + k + vs.length) o) ∧
      (∀ n, updF (mkBox tb k vs zs).2 H n ≠ none → p n ∨ tb + 1 + k ≤ n ∧ n < tb + 1 + k + vs.length) ∧
      (∀ n b, updF (mkBox tb k vs zs).2 H n ≠ none → lam' n = some b → H n ≠ none ∧ lam n = some b) ∧
      (∀ n, p n → updF (mkBox tb k vs zs).2 H n = H n ∧ lam' n = lam n) := by
  intro vs
  induction vs with
  | nil =>
    intro vals zs k p lam H h hg hd hf hr hv
    rw [hr.nil_left]
    exact ⟨lam, h, Chg.of_old (fun _ _ => rfl) h.oklt (fun _ h => h) (fun _ _ => .inr rfl) (fun _ _ _ => rfl), Rel2.nil _, by simp [mkBox],
      fun n o ho => (hg n o ho).mono fun _ h => .inl h, fun n hn => .inl (hd n hn), fun n b h1 h2 => ⟨h1, h2⟩, fun n _ => ⟨rfl, rfl⟩⟩
  | cons v vs ih =>
    intro vals zs k p lam H h hg hd hf hr hv
    obtain ⟨x, rest, rfl, hx, hrest⟩ := hr.uncons
    have plain : (mkBox tb k (v :: vs) zs) = (v :: (mkBox tb (k + 1) vs (zs.drop 1)).1, (mkBox tb (k + 1) vs (zs.drop 1)).2) ∨
        (v = .nils ∧ ∃ m, (mkBox tb k (v :: vs) zs) = (.own (tb + 1 + k) 0 0 :: (mkBox tb (k + 1) vs (zs.drop 1)).1, (tb + 1 + k, some (.arr m [])) :: (mkBox tb (k + 1) vs (zs.drop 1)).2)) := by
      cases v with
      | nils => cases zs with
        | nil => exact .inl rfl
        | cons z zs => cases z with
          | d x => exact .inl rfl
          | nils m => exact .inr ⟨rfl, m, rfl⟩
      | _ => exact .inl rfl
    rcases plain with e | ⟨rfl, m, e⟩
    · rw [e]
      obtain ⟨lam', h1, h2, h3, h4, h5, h6, h7, h8⟩ := ih rest (zs.drop 1) (k + 1) p lam H h hg hd (fun j hj hj2 => hf j (by omega) (by simp; omega)) hrest (fun v hv' => hv v (List.mem_cons_of_mem _ hv'))
      have hm : ∀ n, (p n ∨ tb + 1 + (k + 1) ≤ n ∧ n < tb + 1 + (k + 1) + vs.length) → (p n ∨ tb + 1 + k ≤ n ∧ n < tb + 1 + k + (v :: vs).length) := fun n hn => by
        rcases hn with hn | hn
        · exact .inl hn
        · exact .inr ⟨by omega, by simp; omega⟩
      refine ⟨lam', h1, h2, Rel2.cons (h2.v hx (hv v List.mem_cons_self)) h3, fun u hu => ?_, fun n o ho => (h5 n o ho).mono hm, fun n hn => hm n (h6 n hn), h7, h8⟩
      rcases List.mem_cons.1 hu with rfl | hu
      · exact (hv u List.mem_cons_self).mono fun _ h => .inl h
      · exact (h4 u hu).mono hm
    · rw [e]
      have hfr : ¬ p (tb + 1 + k) := hf k (Nat.le_refl _) (by simp)
      have hnone : H (tb + 1 + k) = none := by
        cases hh : H (tb + 1 + k) with
        | none => rfl
        | some o => exact absurd (hd _ (by rw [hh]; simp)) hfr
      obtain ⟨a1, a2⟩ := h.addNil (p := p) (m := m) hnone hfr hg hd
      obtain ⟨lam', h1, h2, h3, h4, h5, h6, h7, h8⟩ := ih rest (zs.drop 1) (k + 1) (fun n => p n ∨ n = tb + 1 + k) _ _ a1
        (fun n o ho => by
          by_cases e : tb + 1 + k = n
          · subst e; simp at ho; subst ho; trivial
          · rw [if_neg e] at ho; exact (hg n o ho).mono fun _ h => .inl h)
        (fun n hn => by
          by_cases e : tb + 1 + k = n
          · exact .inr e.symm
          · rw [if_neg e] at hn; exact .inl (hd n hn))
        (fun j hj hj2 => by
          have := hf j (by omega) (by simp; omega)
          intro hc
          rcases hc with hc | hc
          · exact this hc
          · omega)
        (hrest.mono fun v x hv' hr => a2.v hr (hv v (List.mem_cons_of_mem _ hv')))
        (fun v hv' => (hv v (List.mem_cons_of_mem _ hv')).mono fun _ h => .inl h)
      have hm : ∀ n, ((p n ∨ n = tb + 1 + k) ∨ tb + 1 + (k + 1) ≤ n ∧ n < tb + 1 + (k + 1) + vs.length) → (p n ∨ tb + 1 + k ≤ n ∧ n < tb + 1 + k + (V.nils :: vs).length) := fun n hn => by
        rcases hn with (hn | rfl) | hn
        · exact .inl hn
        · exact .inr ⟨Nat.le_refl _, by simp⟩
        · exact .inr ⟨by omega, by simp; omega⟩
      cases hx
      have hcn : updF (mkBox tb (k + 1) vs (zs.drop 1)).2 (fun n => if tb + 1 + k = n then some (.arr m []) else H n) (tb + 1 + k) = some (.arr m []) ∧ lam' (tb + 1 + k) = none := by
        have := h8 (tb + 1 + k) (.inr rfl)
        simpa using this
      refine ⟨lam', h1, ?_, Rel2.cons ?_ h3, fun u hu => ?_, fun n o ho => (h5 n o ho).mono hm, fun n hn => hm n (h6 n hn), fun n b hn hb => ?_, fun n hn => ?_⟩
      · refine ⟨fun _ _ => rfl, fun _ h => h, fun n hn hne => ?_, fun n hn c' hc => ?_, fun n hn m' xs' hc => ?_, fun n b cs T fr _ _ hn hne hb hh => ⟨cs, T, fr, hh, rfl⟩⟩
        · rw [(h8 n (.inl hn)).2, if_neg (fun (e : n = tb + 1 + k) => hfr (e ▸ hn))]
        · rw [updF_cons, (h8 n (.inl hn)).1, if_neg (fun (e : tb + 1 + k = n) => hfr (e.symm ▸ hn))] at hc; exact ⟨c', hc⟩
        · rw [updF_cons, (h8 n (.inl hn)).1, if_neg (fun (e : tb + 1 + k = n) => hfr (e.symm ▸ hn))] at hc; exact ⟨xs', hc, rfl⟩
      · refine .own ⟨_, _, _, rfl⟩ fun m' xs' hc => ?_
        rw [updF_cons, hcn.1] at hc
        cases hc
        exact ⟨by simp, .inl ⟨hcn.2, rfl, rfl⟩⟩
      · rcases List.mem_cons.1 hu with rfl | hu
        · exact .own (.inr ⟨Nat.le_refl _, by simp⟩)
        · exact (h4 u hu).mono hm
      · have := h7 n b hn hb
        by_cases e : tb + 1 + k = n
        · subst e; simp at this
        · simp only [if_neg e, if_neg (Ne.symm e)] at this; exact this
      · rw [updF_cons, (h8 n (.inl hn)).1, (h8 n (.inl hn)).2, if_neg (fun (e : tb + 1 + k = n) => hfr (e.symm ▸ hn)), if_neg (fun (e : n = tb + 1 + k) => hfr (e ▸ hn))]
        exact ⟨rfl, rfl⟩

end
end Go.Rx

namespace Go.Rx
open Go Go.RowKit

section
variable {P : Program} {T : Tys} {okIn U : Nat → Prop} {w0 : World} {p : Nat → Prop} {w w' : World} {ok ok' : Nat → Prop} {lam lam' : Nat → Option Nat} {H H' : Heap} {v0 : V} {u0 : Upd} {cv : Value}

/-- The names of operation i. -/
def pX (p : Nat → Prop) (tb n : Nat) : Prop := p n ∨ tb ≤ n ∧ n < tb + 1000

theorem pX_tb {p : Nat → Prop} {tb : Nat} : pX p tb tb := .inr ⟨Nat.le_refl _, by omega⟩

def Fresh (p : Nat → Prop) (tb : Nat) : Prop := ∀ n, tb ≤ n → n < tb + 1000 → ¬ p n

theorem Ctx.none (h : Ctx okIn U w0 p w ok lam H) {tb n : Nat} (hf : Fresh p tb) (h1 : tb ≤ n) (h2 : n < tb + 1000) : H n = none := by
  cases hh : H n with
  | none => rfl
  | some o => exact absurd (h.dom n (by rw [hh]; simp)) (hf n h1 h2)

theorem rel2_cells {cs : List Value} {xs : List D} {f : Nat → Prop} (h : Rel2 (DRel w f) xs cs) {j : Nat} {d : D} (hj : xs[j]? = some d) : ∃ c, cs[j]? = some c ∧ DRel w f d c := h.get hj

/-- A new array in a new block, after some names were let go. -/
theorem newArr_eff (h : Ctx okIn U w0 p w ok lam H) {tb : Nat} (hf : Fresh p tb) (ls : List Nat) {m len cap : Nat} {xs : List (List D)} {cs : Array Value} {Te : TypeId} {fr : Nat × Nat}
    (hblk : ∀ b, b < w.heap.size → w'.heap[b]? = w.heap[b]?) (hsz : w.heap.size < w'.heap.size) (hmeta : w'.os = w.os ∧ w'.tape = w.tape ∧ w'.output = w.output)
    (hnew : w'.heap[w.heap.size]? = some (.cells cs Te fr)) (hfz : ∀ i, i < cs.size → w'.frozen? ⟨w.heap.size, i, none⟩ = false)
    (hm : ∀ e ∈ xs, e.length = m) (hmax : xs.length ≤ MAX) (hlen : len ≤ xs.length) (hcap : len ≤ cap) (hcs : cap * m ≤ cs.size) (hxs : xs.length * m ≤ cs.size)
    (hel : ∀ (i : Nat) e (j : Nat) d, xs[i]? = some e → e[j]? = some d → ∃ c, cs[i * m + j]? = some c ∧ DRel w (okB ok lam H ls) d c) :
    ∃ lam' ok', Eff okIn U w0 p (pX p tb) w ok lam H (.own tb 0 len) (updF (ls.map (·, none) ++ [(tb, some (.arr m xs))]) H) w' (.slice (some ⟨w.heap.size, 0, none⟩) len cap) lam' ok' := by
  rw [updF_append, updF_rem, updF_one]
  obtain ⟨r1, r2⟩ := h.hok.rem (p := p) ls h.good h.dom
  have hg1 : ∀ k o, remF ls H k = some o → OGood p o := fun k o ho => by
    unfold remF at ho; split at ho
    · cases ho
    · exact h.good k o ho
  have hd1 : ∀ k, remF ls H k ≠ none → p k := fun k hk => by
    unfold remF at hk; split at hk
    · simp at hk
    · exact h.dom k hk
  have hfr : ¬ p tb := hf tb (Nat.le_refl _) (by omega)
  have hn : remF ls H tb = none := by
    cases hh : remF ls H tb with
    | none => rfl
    | some o => exact absurd (hd1 tb (by rw [hh]; simp)) hfr
  obtain ⟨a1, a2⟩ := r1.addNew (p := p) (w' := w') (o := .arr m xs) hn hfr hg1 hd1 hblk hsz (fun hc => by
    refine ⟨hm, hmax, .inr ⟨w.heap.size, cs, Te, fr, by simp, hnew, hfz, hxs, fun i e j d hi hj => ?_⟩⟩
    obtain ⟨c, h1, h2⟩ := hel i e j d hi hj
    exact ⟨c, h1, h2.mono hc.hw hc.hok⟩)
  have hchg : ∀ x v, VGood p x → VRel w ok lam H x v → VRel w' (okB ok lam H ls) (fun k => if k = tb then some w.heap.size else lam k) (fun k => if tb = k then some (.arr m xs) else remF ls H k) x v :=
    fun x v hg hv => a2.v (r2.v hv hg) hg
  refine ⟨_, _, ⟨⟨a1, fun n o ho => ?_, fun n hn => ?_, fun b hb => ?_, fun n b hn hb => ?_, Nat.le_trans h.size (Nat.le_of_lt hsz)⟩, ?_, .own pX_tb, ?_, hchg⟩⟩
  · by_cases e : tb = n
    · rw [if_pos e] at ho; cases ho; trivial
    · rw [if_neg e] at ho; exact (hg1 n o ho).mono fun _ h => .inl h
  · by_cases e : tb = n
    · subst e; exact pX_tb
    · rw [if_neg e] at hn; exact .inl (hd1 n hn)
  · rcases hb with hb | ⟨k, hk, hk1, hk2⟩
    · exact h.okb b hb
    · exact .inr (h.ownb k b hk1 hk2)
  · by_cases e : tb = n
    · subst e; simp at hb; right; rw [← hb]; exact h.size
    · rw [if_neg e] at hn; rw [if_neg (Ne.symm e)] at hb
      have : H n ≠ none := by unfold remF at hn; split at hn; simp at hn; exact hn
      exact h.ownb n b this hb
  · refine .own ⟨_, _, _, rfl⟩ fun m' xs' hc => ?_
    simp at hc
    obtain ⟨rfl, rfl⟩ := hc
    exact ⟨by omega, .inr ⟨w.heap.size, 0, cap, cs, Te, fr, by simp, rfl, hcap, .inr (by simp), hnew, by simpa using hcs⟩⟩
  · exact ⟨hmeta.1, hmeta.2.1, hmeta.2.2, Nat.le_of_lt hsz, fun k hk _ => hblk k hk, sized_same hblk⟩

/-- A new box, in a new block. -/
theorem newBox_eff (h : Ctx okIn U w0 p w ok lam H) {tb : Nat} (hf : Fresh p tb) {vs : List V} {vals : List Value} {zs : List Z} {Te : TypeId} (hr : Rel2 (VRel w ok lam H) vs vals) (hg : ∀ v ∈ vs, VGood p v) (hlen : vs.length ≤ 900) :
    ∃ lam' ok', Eff okIn U w0 p (pX p tb) w ok lam H (.ref tb 0) (updF ((mkBox tb 0 vs zs).2 ++ [(tb, some (.box (mkBox tb 0 vs zs).1))]) H) (w.alloc (.cells ⟨vals⟩ Te)) (.pointer (some ⟨w.heap.size, 0, none⟩)) lam' ok' := by
  rw [updF_append, updF_one]
  have hfr : ¬ p tb := hf tb (Nat.le_refl _) (by omega)
  obtain ⟨lam1, h1, h2, h3, h4, h5, h6, h7, h8⟩ := mkBox_sound (tb := tb) vs vals zs 0 p lam H h.hok h.good h.dom (fun j _ hj => hf _ (by omega) (by omega)) hr hg
  have hq : ∀ n, (p n ∨ tb + 1 + 0 ≤ n ∧ n < tb + 1 + 0 + vs.length) → pX p tb n := fun n hn => by
    rcases hn with hn | hn
    · exact .inl hn
    · exact .inr ⟨by omega, by omega⟩
  have hne : ¬ (p tb ∨ tb + 1 + 0 ≤ tb ∧ tb < tb + 1 + 0 + vs.length) := fun hn => by
    rcases hn with hn | hn
    · exact hfr hn
    · omega
  have hn : updF (mkBox tb 0 vs zs).2 H tb = none := by
    cases hh : updF (mkBox tb 0 vs zs).2 H tb with
    | none => rfl
    | some o => exact absurd (h6 tb (by rw [hh]; simp)) hne
  have hblk : ∀ b, b < w.heap.size → (w.alloc (.cells ⟨vals⟩ Te)).heap[b]? = w.heap[b]? := fun b hb => heap_alloc_old w _ b hb
  have hnew : (w.alloc (.cells ⟨vals⟩ Te)).heap[w.heap.size]? = some (.cells ⟨vals⟩ Te (0, 0)) := heap_alloc_new w _
  obtain ⟨a1, a2⟩ := h1.addNew (p := fun n => p n ∨ tb + 1 + 0 ≤ n ∧ n < tb + 1 + 0 + vs.length) (w' := w.alloc (.cells ⟨vals⟩ Te)) (o := .box (mkBox tb 0 vs zs).1) hn hne h5 h6 hblk (by simp) (fun hc =>
    ⟨w.heap.size, ⟨vals⟩, Te, by simp, hnew, by simpa using h3.1, fun i v c hv hcc => hc.v (h3.2 i v c hv (by simpa using hcc)) (h4 v (List.mem_of_getElem? hv))⟩)
  refine ⟨_, _, ⟨⟨a1, fun n o ho => ?_, fun n hn => ?_, h.okb, fun n b hn hb => ?_, Nat.le_trans h.size (by simp)⟩, ?_, .ref pX_tb, ?_, fun x v hgx hv => ?_⟩⟩
  · by_cases e : tb = n
    · rw [if_pos e] at ho; cases ho; exact fun v hv => (h4 v hv).mono hq
    · rw [if_neg e] at ho; exact (h5 n o ho).mono hq
  · by_cases e : tb = n
    · subst e; exact pX_tb
    · rw [if_neg e] at hn; exact hq n (h6 n hn)
  · by_cases e : tb = n
    · subst e; simp at hb; right; rw [← hb]; exact h.size
    · rw [if_neg e] at hn; rw [if_neg (Ne.symm e)] at hb
      obtain ⟨k1, k2⟩ := h7 n b hn hb
      exact h.ownb n b k1 k2
  · exact .ref ⟨_, rfl⟩ fun o ho => ⟨w.heap.size, by simp, rfl⟩
  · exact ⟨rfl, rfl, rfl, by simp, fun k hk _ => hblk k hk, sized_same hblk⟩
  · exact a2.v (h2.v hv hgx) (hgx.mono fun _ h => .inl h)

theorem moveNil_eff (h : Ctx okIn U w0 p w ok lam H) {tb m : Nat} (hf : Fresh p tb) :
    ∃ lam' ok', Eff okIn U w0 p (pX p tb) w ok lam H (.own tb 0 0) (updF [(tb, some (.arr m []))] H) w (.slice none 0 0) lam' ok' := by
  rw [updF_one]
  have hfr : ¬ p tb := hf tb (Nat.le_refl _) (by omega)
  obtain ⟨a1, a2⟩ := h.hok.addNil (p := p) (m := m) (h.none hf (Nat.le_refl _) (by omega)) hfr h.good h.dom
  refine ⟨_, _, ⟨⟨a1, fun n o ho => ?_, fun n hn => ?_, h.okb, fun n b hn hb => ?_, h.size⟩, ?_, .own pX_tb, Fr.refl _ _, fun x v hg hv => a2.v hv hg⟩⟩
  · by_cases e : tb = n
    · rw [if_pos e] at ho; cases ho; trivial
    · rw [if_neg e] at ho; exact (h.good n o ho).mono fun _ h => .inl h
  · by_cases e : tb = n
    · subst e; exact pX_tb
    · rw [if_neg e] at hn; exact .inl (h.dom n hn)
  · by_cases e : tb = n
    · subst e; simp at hb
    · rw [if_neg e] at hn; rw [if_neg (Ne.symm e)] at hb; exact h.ownb n b hn hb
  · refine .own ⟨_, _, _, rfl⟩ fun m' xs' hc => ?_
    simp at hc
    obtain ⟨rfl, rfl⟩ := hc
    exact ⟨by simp, .inl ⟨by simp, rfl, rfl⟩⟩

/-! ### slice literals, make, bytes of a string -/

theorem litParts_sound (hk : HOK w ok lam H) : ∀ (ps : List (Nat × V)) (ps' : List (Nat × Value)) (k : Nat) (es : List (List D)) (ls : List Nat),
    Rel2 (fun a b => a.1 = b.1 ∧ VRel w ok lam H a.2 b.2) ps ps' → litParts H k ps = some (es, ls) →
    Rel2 (fun e b => Rel2 (DRel w (okB ok lam H ls)) e b.2.cells.toList) es ps' ∧ ∀ (i : Nat) b, ps'[i]? = some b → b.1 = k + i := by
  intro ps
  induction ps with
  | nil =>
    intro ps' k es ls hr h
    rw [hr.nil_left]; simp [litParts] at h; rw [h.1]
    exact ⟨Rel2.nil _, by simp⟩
  | cons a ps ih =>
    intro ps' k es ls hr h
    obtain ⟨i, x⟩ := a
    obtain ⟨⟨i', xv⟩, rest, rfl, ⟨hi, hx⟩, hrest⟩ := hr.uncons
    obtain rfl : i = i' := hi
    simp only [litParts] at h
    cases hp : litPart H (i == k) x.cells with
    | none => simp [hp] at h
    | some d1 =>
      obtain ⟨ds, l1⟩ := d1
      cases hq : litParts H (k + 1) ps with
      | none => simp [hp, hq] at h
      | some d2 =>
        obtain ⟨es2, l2⟩ := d2
        simp [hp, hq] at h
        obtain ⟨rfl, rfl⟩ := h
        unfold litPart at hp
        split at hp
        · rename_i b vs hik hc
          have hik' : i = k := by simpa using hik
          subst hik'
          obtain ⟨g1, g2⟩ := ih rest (i + 1) es2 l2 hrest hq
          refine ⟨Rel2.cons ((cDs_sound hk (V.cells_sound hx hc) hp).mono fun _ _ _ hd => hd.mono (fun _ _ => rfl) fun b hb => okB_mono hb (by simp; intro n hn; exact .inl hn))
            (g1.mono fun _ _ _ he => he.mono fun _ _ _ hd => hd.mono (fun _ _ => rfl) fun b hb => okB_mono hb (by simp; intro n hn; exact .inr hn)), fun j b hb => ?_⟩
          cases j with
          | zero => simp at hb; subst hb; rfl
          | succ j => simp at hb; rw [g2 j b hb]; omega
        · simp at hp

theorem fill_lit {size : Nat} : ∀ (ps : List (Nat × Value)) (k : Nat) (pre : List Value) (post : List Value), (∀ (i : Nat) b, ps[i]? = some b → b.1 = k + i ∧ b.2.cells.size = size) →
    pre.length = k * size → post.length = ps.length * size →
    Instr.fill (fun i => some (i * size, size)) ⟨pre ++ post⟩ ps = some ⟨pre ++ (ps.flatMap fun b => b.2.cells.toList)⟩ := by
  intro ps
  induction ps with
  | nil => intro k pre post h h1 h2; have : post = [] := List.eq_nil_of_length_eq_zero (by simpa using h2); subst this; simp [Instr.fill]
  | cons b ps ih =>
    intro k pre post h h1 h2
    obtain ⟨i, v⟩ := b
    obtain ⟨hi, hs⟩ := h 0 (i, v) rfl
    simp at hi hs
    subst hi
    simp only [List.length_cons, Nat.add_mul, Nat.one_mul] at h2
    have hfold := fold_array v (i * size) ⟨pre ++ post⟩ (by simp [h1, h2, hs])
    simp only [Instr.fill]
    rw [if_neg (by simp only [ne_eq, Bool.or_eq_true, decide_eq_true_eq, not_or]; simp [hs, h1, h2]), hfold]
    have hsp : splice (pre ++ post) (i * size) v.cells.toList = (pre ++ v.cells.toList) ++ post.drop size := by
      unfold splice
      have : v.cells.toList.length = size := by simpa using hs
      rw [← h1, List.take_left, this, ← List.drop_drop, List.drop_left]
    rw [hsp, ih (i + 1) (pre ++ v.cells.toList) (post.drop size) (fun j b hb => by
      have := h (j + 1) b (by simpa using hb)
      exact ⟨by omega, this.2⟩) (by simp [h1, hs, Nat.add_mul]) (by simp; omega)]
    simp [List.append_assoc]

theorem flat_get {size : Nat} : ∀ (ps : List (Nat × Value)) (i j : Nat) b c, (∀ b ∈ ps, b.2.cells.size = size) → ps[i]? = some b → b.2.cells[j]? = some c → j < size →
    (ps.flatMap fun b => b.2.cells.toList)[i * size + j]? = some c := by
  intro ps
  induction ps with
  | nil => intro i j b c _ h; simp at h
  | cons a ps ih =>
    intro i j b c hs h hc hj
    have ha : a.2.cells.toList.length = size := by simpa using hs a List.mem_cons_self
    rw [List.flatMap_cons]
    cases i with
    | zero =>
      simp at h; subst h
      rw [List.getElem?_append_left (by omega)]
      simpa using hc
    | succ i =>
      rw [List.getElem?_append_right (by rw [ha, Nat.add_mul]; omega), ha]
      rw [show (i + 1) * size + j - size = i * size + j by rw [Nat.add_mul]; omega]
      exact ih i j b c (fun b hb => hs b (List.mem_cons_of_mem _ hb)) (by simpa using h) hc hj

end
end Go.Rx

namespace Go.Rx
open Go Go.RowKit

section
variable {P : Program} {T : Tys} {okIn U : Nat → Prop} {w0 : World} {p : Nat → Prop} {w w' : World} {ok ok' : Nat → Prop} {lam lam' : Nat → Option Nat} {H H' : Heap} {v0 : V} {u0 : Upd} {cv : Value}

/-- What an operation that may change things comes to. -/
def Does (P : Program) (okIn U : Nat → Prop) (w0 : World) (p : Nat → Prop) (tb : Nat) (w : World) (ok : Nat → Prop) (lam : Nat → Option Nat) (H : Heap) (v0 : V) (u0 : Upd) (s : Sem Value) : Prop :=
  ∃ cv w' lam' ok', s.run P w = .ok cv w' ∧ Eff okIn U w0 p (pX p tb) w ok lam H v0 (updF u0 H) w' cv lam' ok'

theorem elemT_at (hT : TyOK P T) {t : Nat} {ti : TI} (h : (elemT T t).bind T = some ti) : ∃ e it info d z info2 z2, TyAt P t it info (.slice e) z2 ∧ T e = some ti ∧ TyAt P e ti info2 d z := by
  cases he : elemT T t with
  | none => simp [he] at h
  | some e =>
    simp [he] at h
    obtain ⟨it, hTt, hkt⟩ := elemT_some he
    obtain ⟨info, d, z, ht⟩ := hT t it hTt
    obtain rfl : d = .slice e := kindOK_slice (hkt ▸ ht.kind)
    obtain ⟨infoe, de, ze, hte⟩ := hT e ti h
    exact ⟨e, it, info, de, ze, infoe, z, ht, h, hte⟩

theorem lit_eff (hT : TyOK P T) (h : Ctx okIn U w0 p w ok lam H) {tb : Nat} (hf : Fresh p tb) {t len : Nat} {ti : TI} (hti : (elemT T t).bind T = some ti) {ps : List (Nat × V)} {ps' : Array (Nat × Value)}
    (hp : Rel2 (fun a b => a.1 = b.1 ∧ VRel w ok lam H a.2 b.2) ps ps'.toList) (hv : litVC tb len ti (litParts H 0 ps) (eqK v0 u0)) :
    Does P okIn U w0 p tb w ok lam H v0 u0 (Instr.buildSlice t len ps') := by
  cases hl : litParts H 0 ps with
  | none => rw [hl] at hv; simp [litVC] at hv
  | some pr =>
    obtain ⟨es, ls⟩ := pr
    rw [hl] at hv
    simp only [litVC] at hv
    obtain ⟨h1, h0, h2, h3, _, rfl, rfl⟩ := hv
    obtain ⟨e, it, info, de, ze, infoe, z2, ht, hTe, hte⟩ := elemT_at hT hti
    obtain ⟨g1, g2⟩ := litParts_sound h.hok ps ps'.toList 0 es ls hp hl
    have hlen : ps'.toList.length = len := by rw [← g1.1]; exact h1
    have hsz : ∀ (i : Nat) b, ps'.toList[i]? = some b → b.1 = 0 + i ∧ b.2.cells.size = ti.size := fun i b hb => by
      obtain ⟨x, hx, hr⟩ := g1.get' hb
      refine ⟨g2 i b hb, ?_⟩
      have := hr.1
      rw [h3 x (List.mem_of_getElem? hx)] at this
      simpa using this.symm
    have hfill : ∀ A : Array Value, A.size = len * ti.size → Instr.fill (fun i => some (i * ti.size, ti.size)) A ps'.toList = some ⟨ps'.toList.flatMap fun b => b.2.cells.toList⟩ := fun A hA => by
      have := fill_lit (size := ti.size) ps'.toList 0 [] A.toList hsz (by simp) (by rw [hlen]; simpa using hA)
      simpa using this
    let cs : List Value := ps'.toList.flatMap fun b => b.2.cells.toList
    have hrun : (Instr.buildSlice t len ps').run P w = .ok (.slice (some ⟨w.heap.size, 0, none⟩) len len) (w.alloc (.cells ⟨cs⟩ e)) := by
      have hno : ¬ (16777216 < len * ti.size) := by omega
      by_cases hz : len * ti.size = 0
      · have := hfill (Array.map (fun _ => default) (Array.range 0)) (by simp [hz])
        simp [Instr.buildSlice, ht.run_und, hte.run_sizeOf, hz, newRow, this]
        rfl
      · have := hfill ((Array.range (len * ti.size)).map (ze.cells[· % ze.cells.size]!)) (by simp)
        simp [Instr.buildSlice, ht.run_und, hte.run_sizeOf, hz, hno, hte.run_zero, newRow, this]
        rfl
    have hcl : cs.length = len * ti.size := by
      have : ∀ (l : List (Nat × Value)), (∀ b ∈ l, b.2.cells.size = ti.size) → (l.flatMap fun b => b.2.cells.toList).length = l.length * ti.size := by
        intro l hl
        induction l with
        | nil => simp
        | cons a l ih => simp only [List.flatMap_cons, List.length_append, List.length_cons, ih fun b hb => hl b (List.mem_cons_of_mem _ hb)]; have := hl a List.mem_cons_self; simp [this, Nat.add_mul]; omega
      rw [this _ fun b hb => by obtain ⟨i, hi, e⟩ := List.mem_iff_getElem.1 hb; exact (hsz i b (by rw [List.getElem?_eq_getElem hi, e])).2, hlen]
    obtain ⟨lam', ok', he⟩ := newArr_eff (w' := w.alloc (.cells ⟨cs⟩ e)) h hf ls (m := ti.size) (len := len) (cap := len) (xs := es) (cs := ⟨cs⟩) (Te := e) (fr := (0, 0))
      (fun b hb => heap_alloc_old w _ b hb) (by simp) ⟨rfl, rfl, rfl⟩ (heap_alloc_new w _) (fun i _ => by simp) h3 (by unfold MAX; omega) (by omega) (Nat.le_refl _) (by simp [hcl]) (by simp [hcl, h1]) (fun i x j d hi hj => by
        obtain ⟨b, hb, hr⟩ := g1.get hi
        obtain ⟨c, hc, hd⟩ := hr.get hj
        have hjlt : j < ti.size := by rw [← h3 x (List.mem_of_getElem? hi)]; exact (List.getElem?_eq_some_iff.1 hj).1
        refine ⟨c, ?_, hd⟩
        have := flat_get (size := ti.size) ps'.toList i j b c (fun b hb => by obtain ⟨i, hi, e⟩ := List.mem_iff_getElem.1 hb; exact (hsz i b (by rw [List.getElem?_eq_getElem hi, e])).2) hb (by simpa using hc) hjlt
        simpa using this)
    exact ⟨_, _, lam', ok', hrun, he⟩

end
end Go.Rx

namespace Go.Rx
open Go Go.RowKit

section
variable {P : Program} {T : Tys} {okIn U : Nat → Prop} {w0 : World} {p : Nat → Prop} {w w' : World} {ok ok' : Nat → Prop} {lam lam' : Nat → Option Nat} {H H' : Heap} {v0 : V} {u0 : Upd} {cv : Value}

theorem zeroD_rel : ∀ {zs : List Z} {vs : List Value}, Rel2 Z.rel zs vs → Rel2 (fun d v => ∀ w ok, DRel w ok d v) (zeroD zs) vs := by
  intro zs
  induction zs with
  | nil => intro vs h; rw [h.nil_left]; exact Rel2.nil _
  | cons z zs ih =>
    intro vs h
    obtain ⟨v, m, rfl, hv, hm⟩ := h.uncons
    cases z with
    | d x => exact Rel2.cons hv (ih hm)
    | nils m' => exact Rel2.cons (fun w ok => by have : v = .slice none 0 0 := hv; subst this; exact .sl0 _ _) (ih hm)

theorem zeroD_length (zs : List Z) : (zeroD zs).length = zs.length := by
  induction zs with
  | nil => rfl
  | cons z zs ih => cases z <;> simp [zeroD, ih]

theorem make_eff (hT : TyOK P T) (h : Ctx okIn U w0 p w ok lam H) {tb : Nat} (hf : Fresh p tb) {t : Nat} {ti : TI} (hti : (elemT T t).bind T = some ti) {l c : V} {lv cvv : Value}
    (hl : VRel w ok lam H l lv) (hc : VRel w ok lam H c cvv) (hv : makeVC tb ti l c (eqK v0 u0)) : Does P okIn U w0 p tb w ok lam H v0 u0 (Instr.makeSlice t lv cvv) := by
  unfold makeVC at hv
  split at hv
  · rename_i k n k' n'
    obtain ⟨rfl, h0, h1, h2, h3, rfl, rfl⟩ := hv
    cases hl.inv_d
    cases hc.inv_d
    obtain ⟨e, it, info, de, ze, infoe, z2, ht, hTe, hte⟩ := elemT_at hT hti
    have hb : (infoe.bytes : Int) * n ≤ 281474976710656 := by
      rw [hte.bytes]
      have : (ti.bytes : Int) * n ≤ 4096 * 4294967296 := Int.mul_le_mul (by omega) (by omega) h0 (by omega)
      omega
    have hrun := run_make (P := P) w t e infoe ze ht.und hte.inf hte.zero k k' n n h0 (Int.le_refl _) hb (by omega)
    rw [hte.size] at hrun
    have hzl : ze.cells.size = ti.size := by have := hte.zrel.1; rw [h3] at this; simpa using this.symm
    have hzd := zeroD_rel hte.zrel
    obtain ⟨lam', ok', he⟩ := newArr_eff (w' := w.alloc (.cells (madeCells ze.cells (n.toNat * ti.size)) e)) h hf [] (m := ti.size) (len := n.toNat) (cap := n.toNat) (xs := List.replicate n.toNat (zeroD ti.zero))
      (cs := madeCells ze.cells (n.toNat * ti.size)) (Te := e) (fr := (0, 0)) (fun b hb => heap_alloc_old w _ b hb) (by simp) ⟨rfl, rfl, rfl⟩ (heap_alloc_new w _) (fun i _ => by simp)
      (fun x hx => by rw [List.eq_of_mem_replicate hx, zeroD_length, h3]) (by simp [MAX]; omega) (by simp) (Nat.le_refl _) (by simp [size_madeCells]) (by simp [size_madeCells]) (fun i x j d hi hj => by
        have hlt : i < n.toNat := by have := (List.getElem?_eq_some_iff.1 hi).1; simpa using this
        have hx : x = zeroD ti.zero := List.eq_of_mem_replicate (List.mem_of_getElem? hi)
        subst hx
        obtain ⟨c, hc, hd⟩ := hzd.get hj
        have hjl : j < ti.size := by have := (List.getElem?_eq_some_iff.1 hj).1; rw [zeroD_length, h3] at this; exact this
        refine ⟨c, ?_, hd _ _⟩
        have hb : i * ti.size + j < n.toNat * ti.size := by
          have : (i + 1) * ti.size ≤ n.toNat * ti.size := Nat.mul_le_mul_right _ hlt
          rw [Nat.add_mul] at this
          omega
        simp only [madeCells]
        rw [Array.getElem?_map, Array.getElem?_range, if_pos hb]
        simp only [Option.map_some]
        have hmod : (i * ti.size + j) % ze.cells.size = j := by rw [hzl, Nat.mul_comm, Nat.mul_add_mod]; exact Nat.mod_eq_of_lt hjl
        rw [hmod]
        have hjz : j < ze.cells.size := by omega
        simp at hc
        rw [getElem!_pos ze.cells j hjz]
        rw [Array.getElem?_eq_getElem hjz] at hc
        exact hc)
    exact ⟨_, _, lam', ok', hrun, he⟩
  · exact hv.elim

theorem strBytes_eff (h : Ctx okIn U w0 p w ok lam H) {tb : Nat} (hf : Fresh p tb) {src dst e : Nat} {s : List UInt8} (hsl : s.length ≤ MAX) (hs : P.underlying src = some .string) (hd : P.underlying dst = some (.slice e)) (he : P.underlying e = some (.int .u8)) :
    Does P okIn U w0 p tb w ok lam H (.own tb 0 s.length) [(tb, some (.arr 1 (s.map byteCell)))] (convert src dst (.string ⟨⟨s⟩⟩)) := by
  have hrun := run_bytes_of_string (P := P) w src dst e ⟨⟨s⟩⟩ hs hd he
  simp only [size_mk] at hrun
  have hge := grownCap_ge w s.length 0 e
  generalize hcap : grownCap w s.length 0 e = cap at *
  have hrow : (bytesRow ⟨⟨s⟩⟩ cap).size = cap := by simp [bytesRow, size_mk]; omega
  obtain ⟨lam', ok', hE⟩ := newArr_eff (w' := w.drew.alloc (.cells (bytesRow ⟨⟨s⟩⟩ cap) e ((bytesRow ⟨⟨s⟩⟩ cap).size, (bytesRow ⟨⟨s⟩⟩ cap).size + 1))) h hf [] (m := 1) (len := s.length) (cap := cap) (xs := s.map byteCell)
    (cs := bytesRow ⟨⟨s⟩⟩ cap) (Te := e) (fr := ((bytesRow ⟨⟨s⟩⟩ cap).size, (bytesRow ⟨⟨s⟩⟩ cap).size + 1)) (fun b hb => heap_alloc_old w.drew _ b hb) (by simp) ⟨rfl, rfl, rfl⟩ (heap_alloc_new w.drew _)
    (fun i hi => by
      have hnew : (w.drew.alloc (.cells (bytesRow ⟨⟨s⟩⟩ cap) e ((bytesRow ⟨⟨s⟩⟩ cap).size, (bytesRow ⟨⟨s⟩⟩ cap).size + 1))).heap[w.heap.size]? = _ := heap_alloc_new w.drew _
      simp only [World.frozen?, hnew]
      simp
      omega)
    (fun x hx => by obtain ⟨b, _, rfl⟩ := List.mem_map.1 hx; rfl) (by simpa using hsl) (by simp) (by omega) (by omega) (by simp; omega) (fun i x j d hi hj => by
      rw [List.getElem?_map] at hi
      cases hx : s[i]? with
      | none => simp [hx] at hi
      | some b =>
        simp [hx] at hi; subst hi
        have hj0 : j = 0 := by have := (List.getElem?_eq_some_iff.1 hj).1; simp [byteCell] at this; omega
        subst hj0
        simp [byteCell] at hj; subst hj
        have hlt := (List.getElem?_eq_some_iff.1 hx).1
        refine ⟨.int .u8 b.toNat, ?_, .int _ _⟩
        simp only [bytesRow, Nat.mul_one, Nat.add_zero]
        rw [Array.getElem?_append_left (by simpa using hlt)]
        simp [hx])
  exact ⟨_, _, lam', ok', hrun, hE⟩

/-! ### stores -/

theorem store_run {t b off : Nat} {i : TI} {info : TypeInfo} {d : TypeDesc} {z : Value} (ht : TyAt P t i info d z) {xv : Value} {cs : List Value} {Te : TypeId} {fr : Nat × Nat}
    (hsz : xv.cells.size = i.size) (hb : w.heap[b]? = some (.cells ⟨cs⟩ Te fr)) (hle : off + i.size ≤ cs.length) (hfz : ∀ i, i < cs.length → w.frozen? ⟨b, i, none⟩ = false) (h1 : ∀ v ∈ xv.cells.toList, v.oneCell' = true) :
    (Instr.storeAt t (.pointer (some ⟨b, off, none⟩)) xv).run P w = .ok () (w.setCells b off xv.cells.toList) := by
  have hl : xv.cells.toList.length = i.size := by simpa using hsz
  have := run_storeCells_cells (P := P) b off xv.cells.toList 0 w (fun j hj => by
      rw [cell_of_row w b _ ⟨cs⟩ Te fr hb]
      simp; omega) (fun j hj => hfz _ (by omega)) h1
  simp only [Nat.add_zero] at this
  simp [Instr.storeAt, Instr.sureAddr, storeVar, ht.run_sizeOf, hsz, this]

theorem storeRef_eff (hT : TyOK P T) (h : Ctx okIn U w0 p w ok lam H) {tb : Nat} (hf : Fresh p tb) {t n off : Nat} {ti : TI} (hTt : T t = some ti) {vs : List V} {x : V} {ptv xv : Value}
    (hx : VRel w ok lam H x xv) (hxc : x.cells = some vs) (hvg : ∀ v ∈ vs, VGood p v) (hlen : vs.length = ti.size) (hsm : ti.size ≤ 900) (hone : (vs.all V.one) = true) (hp : VRel w ok lam H (.ref n off) ptv)
    {cells : List V} (hn : H n = some (.box cells)) (hle : off + ti.size ≤ cells.length) :
    ∃ w' lam' ok', (Instr.storeAt t ptv xv).run P w = .ok () w' ∧
      Eff okIn U w0 p (pX p tb) w ok lam H (.d .und) (updF ((mkBox tb 0 vs ti.zero).2 ++ [(n, some (.box (setAt cells off (mkBox tb 0 vs ti.zero).1)))]) H) w' undef lam' ok' := by
  obtain ⟨info, d, z, ht⟩ := hT t ti hTt
  have hxv := V.cells_sound hx hxc
  obtain ⟨b, cs, Te, hl, hb, hrel, _⟩ := box_range (off := off) h.hok hn
  cases hp with | ref _ hp =>
  obtain ⟨b', hb', rfl⟩ := hp _ hn
  obtain rfl : b = b' := by rw [hl] at hb'; exact Option.some.inj hb'
  have hcl : cells.length = cs.length := hrel.1
  have hxl : xv.cells.size = ti.size := by have := hxv.1; simp at this; omega
  have hfz : ∀ i, i < cs.length → w.frozen? ⟨b, i, none⟩ = false := fun i _ => frozen_of_row w b i ⟨cs⟩ Te hb
  have h1 : ∀ v ∈ xv.cells.toList, v.oneCell' = true := fun v hv => by
    obtain ⟨i, hi, rfl⟩ := List.mem_iff_getElem.1 hv
    obtain ⟨y, hy, hr⟩ := hxv.get' (List.getElem?_eq_getElem hi)
    exact hr.one (List.all_eq_true.1 hone y (List.mem_of_getElem? hy))
  have hrun := store_run (P := P) (w := w) (off := off) ht hxl hb (by omega) hfz h1
  have hpn : p n := h.dom n (by rw [hn]; simp)
  obtain ⟨lam1, a1, a2, a3, a4, a5, a6, a7, a8⟩ := mkBox_sound (tb := tb) vs xv.cells.toList ti.zero 0 p lam H h.hok h.good h.dom (fun j _ hj => hf _ (by omega) (by omega)) hxv hvg
  have hq : ∀ k, (p k ∨ tb + 1 + 0 ≤ k ∧ k < tb + 1 + 0 + vs.length) → pX p tb k := fun k hk => by
    rcases hk with hk | hk
    · exact .inl hk
    · exact .inr ⟨by omega, by omega⟩
  obtain ⟨e1, e2⟩ := a8 n hpn
  have hheap := setCells_heap b Te (0, 0) xv.cells.toList off w cs hb (by have := hxv.1; omega)
  obtain ⟨m1, m2, m3, m4⟩ := setCells_meta b xv.cells.toList off w
  obtain ⟨b1, b2⟩ := a1.upd (p := fun k => p k ∨ tb + 1 + 0 ≤ k ∧ k < tb + 1 + 0 + vs.length) (w' := w.setCells b off xv.cells.toList) (n := n) (b := b) (o := .box cells) (o' := .box (setAt cells off (mkBox tb 0 vs ti.zero).1))
    (e1.trans hn) (e2.trans hl) a5 a6 (fun k hk => setCells_other b _ off w k hk) m1 (fun c T f hc => by
      rw [hb] at hc; cases hc
      exact ⟨⟨splice cs off xv.cells.toList⟩, Te, (0, 0), hheap, by simp [splice]; omega⟩) (.inl ⟨_, _, rfl, rfl⟩) (fun hc => by
      refine ⟨b, ⟨splice cs off xv.cells.toList⟩, Te, e2.trans hl, hheap, ?_, fun i v c hv hcc => ?_⟩
      · have := (hrel.splice hxv off).1
        have l2 : (mkBox tb 0 vs ti.zero).1.length = vs.length := by rw [a3.1, hxv.1]
        simp [setAt, splice, l2] at this ⊢
        omega
      · have hspl : Rel2 (VRel (w.setCells b off xv.cells.toList) ok lam1 (fun k => if n = k then some (.box (setAt cells off (mkBox tb 0 vs ti.zero).1)) else updF (mkBox tb 0 vs ti.zero).2 H k)) (setAt cells off (mkBox tb 0 vs ti.zero).1) (splice cs off xv.cells.toList) := by
          rw [setAt_splice]
          refine Rel2.splice (hrel.mono fun y c hy hr => hc.v (a2.v hr (h.good n _ hn y hy)) ((h.good n _ hn y hy).mono fun _ h => .inl h)) (a3.mono fun y c hy hr => hc.v hr (a4 y hy)) off
        exact hspl.2 i v c hv (by simpa using hcc))
  refine ⟨_, lam1, ok, hrun, ?_⟩
  rw [updF_append, updF_one]
  refine ⟨⟨b1, fun k o ho => ?_, fun k hk => ?_, h.okb, fun k c hk hc => ?_, by rw [m1]; exact h.size⟩, .d .und, .d _, ⟨m2, m3, m4, by rw [m1]; exact Nat.le_refl _, fun k hk hu => ?_, setCells_sized hb (by have := hxv.1; omega)⟩, fun y v hg hv => b2.v (a2.v hv hg) (hg.mono fun _ h => .inl h)⟩
  · by_cases e : n = k
    · rw [if_pos e] at ho; cases ho
      intro v hv
      simp only [setAt, List.mem_append] at hv
      rcases hv with (hv | hv) | hv
      · exact (h.good n _ hn v (List.mem_of_mem_take hv)).mono fun _ h => .inl h
      · exact (a4 v hv).mono hq
      · exact (h.good n _ hn v (List.mem_of_mem_drop hv)).mono fun _ h => .inl h
    · rw [if_neg e] at ho; exact (a5 k o ho).mono hq
  · by_cases e : n = k
    · subst e; exact .inl hpn
    · rw [if_neg e] at hk; exact hq k (a6 k hk)
  · by_cases e : n = k
    · subst e; rw [e2] at hc; exact h.ownb n c (by rw [hn]; simp) hc
    · rw [if_neg e] at hk
      obtain ⟨k1, k2⟩ := a7 k c hk hc
      exact h.ownb k c k1 k2
  · refine setCells_other b _ off w k fun e => hu ?_
    subst e
    exact h.ownb n k (by rw [hn]; simp) hl

end
end Go.Rx

namespace Go.Rx
open Go Go.RowKit

section
variable {P : Program} {T : Tys} {okIn U : Nat → Prop} {w0 : World} {p : Nat → Prop} {w w' : World} {ok ok' : Nat → Prop} {lam lam' : Nat → Option Nat} {H H' : Heap} {v0 : V} {u0 : Upd} {cv : Value}

theorem remF_ne {ls : List Nat} {H : Heap} {n : Nat} {o : AObj} (h : remF ls H n = some o) : n ∉ ls ∧ H n = some o := by
  unfold remF at h
  split at h
  · cases h
  · exact ⟨‹_›, h⟩

theorem splice_get {l : List Value} {off : Nat} {vs : List Value} {k : Nat} (hle : off + vs.length ≤ l.length) :
    (splice l off vs)[k]? = if k < off then l[k]? else if k < off + vs.length then vs[k - off]? else l[k]? := by
  unfold splice
  have h1 : (l.take off).length = off := by simp; omega
  split
  · rename_i hk
    rw [List.append_assoc, List.getElem?_append_left (by omega), List.getElem?_take, if_pos hk]
  · rename_i hk
    split
    · rename_i hk2
      rw [List.append_assoc, List.getElem?_append_right (by omega), h1, List.getElem?_append_left (by omega)]
    · rename_i hk2
      rw [List.getElem?_append_right (by simp; omega), List.getElem?_drop]
      congr 1
      simp
      omega

theorem storeEl_eff (hT : TyOK P T) (h : Ctx okIn U w0 p w ok lam H) {tb : Nat} {t n i j : Nat} {ti : TI} (hTt : T t = some ti) {vs : List V} {x : V} {ptv xv : Value}
    (hx : VRel w ok lam H x xv) (hxc : x.cells = some vs) (hlen : vs.length = ti.size) (hone : (vs.all V.one) = true) (hp : VRel w ok lam H (.el n i j) ptv)
    {m : Nat} {xs : List (List D)} (hn : H n = some (.arr m xs)) {ds : List D} {ls : List Nat} (hcd : cDs H vs = some (ds, ls)) (hi : i < xs.length) (hj : j + ti.size ≤ m) (hls : n ∉ ls) :
    ∃ w' lam' ok', (Instr.storeAt t ptv xv).run P w = .ok () w' ∧
      Eff okIn U w0 p (pX p tb) w ok lam H (.d .und) (updF (ls.map (·, none) ++ [(n, some (.arr m (xs.set i ((lget xs i).take j ++ ds ++ (lget xs i).drop (j + ds.length)))))]) H) w' undef lam' ok' := by
  obtain ⟨info, d, z, ht⟩ := hT t ti hTt
  have hxv := V.cells_sound hx hxc
  have hdv := cDs_sound h.hok hxv hcd
  obtain ⟨hm, hmax, hc⟩ := h.hok.obj n _ hn
  have hxi : xs[i]? = some (lget xs i) := by simp [lget, List.getD, hi]
  have hrow : (lget xs i).length = m := hm _ (List.mem_of_getElem? hxi)
  rcases hc with ⟨_, hz⟩ | ⟨b, ⟨cs⟩, Te, fr, hl, hb, hfz, hsz, hel⟩
  · subst hz; simp at hi
  have hsz' : xs.length * m ≤ cs.length := by simpa using hsz
  cases hp with | el _ hp =>
  obtain ⟨_, b', hb', rfl⟩ := hp m xs hn
  obtain rfl : b = b' := by rw [hl] at hb'; exact Option.some.inj hb'
  have hxl : xv.cells.size = ti.size := by have := hxv.1; simp at this; omega
  have hdl : ds.length = ti.size := by have := hdv.1; simp at this; omega
  have hin : (i + 1) * m ≤ xs.length * m := Nat.mul_le_mul_right _ hi
  rw [Nat.add_mul, Nat.one_mul] at hin
  have h1 : ∀ v ∈ xv.cells.toList, v.oneCell' = true := fun v hv => by
    obtain ⟨i, hi, rfl⟩ := List.mem_iff_getElem.1 hv
    obtain ⟨y, hy, hr⟩ := hxv.get' (List.getElem?_eq_getElem hi)
    exact hr.one (List.all_eq_true.1 hone y (List.mem_of_getElem? hy))
  have hrun := store_run (P := P) (w := w) (off := i * m + j) ht hxl hb (by omega) (fun k hk => hfz k (by simpa using hk)) h1
  have hpn : p n := h.dom n (by rw [hn]; simp)
  obtain ⟨r1, r2⟩ := h.hok.rem (p := p) ls h.good h.dom
  have hg1 : ∀ k o, remF ls H k = some o → OGood p o := fun k o ho => h.good k o (remF_ne ho).2
  have hd1 : ∀ k, remF ls H k ≠ none → p k := fun k hk => by
    cases hh : remF ls H k with
    | none => exact absurd hh hk
    | some o => exact h.dom k (by rw [(remF_ne hh).2]; simp)
  have hn1 : remF ls H n = some (.arr m xs) := by unfold remF; rw [if_neg hls]; exact hn
  have hvl : xv.cells.toList.length = ti.size := by simpa using hxl
  have hszd : i * m + j + xv.cells.toList.length ≤ cs.length := by omega
  have hheap := setCells_heap b Te fr xv.cells.toList (i * m + j) w cs hb (by omega)
  obtain ⟨m1, m2, m3, m4⟩ := setCells_meta b xv.cells.toList (i * m + j) w
  have hnl : ((lget xs i).take j ++ ds ++ (lget xs i).drop (j + ds.length)).length = m := by simp; omega
  obtain ⟨b1, b2⟩ := r1.upd (p := p) (w' := w.setCells b (i * m + j) xv.cells.toList) (n := n) (b := b) (o := .arr m xs) (o' := .arr m (xs.set i ((lget xs i).take j ++ ds ++ (lget xs i).drop (j + ds.length))))
    hn1 hl hg1 hd1 (fun k hk => setCells_other b _ _ w k hk) m1 (fun c T f hc => by
      rw [hb] at hc; cases hc
      exact ⟨⟨splice cs (i * m + j) xv.cells.toList⟩, Te, fr, hheap, by simp [splice]; omega⟩) (.inr ⟨m, xs, _, rfl, rfl, by simp⟩) (fun hc => by
      refine ⟨fun e he => ?_, by simpa using hmax, .inr ⟨b, ⟨splice cs (i * m + j) xv.cells.toList⟩, Te, fr, hl, hheap, fun k hk => ?_, ?_, fun i' e j' d' hi' hj' => ?_⟩⟩
      · rcases List.mem_or_eq_of_mem_set he with he | he
        · exact hm e he
        · rw [he]; exact hnl
      · have hk' : k < cs.length := by simp [splice] at hk; omega
        have hf0 := hfz k (by simpa using hk')
        simp only [World.frozen?, hb] at hf0
        simp only [World.frozen?, hheap]
        exact hf0
      · simp [splice]; omega
      · have hil : i' < xs.length := by have := (List.getElem?_eq_some_iff.1 hi').1; simpa using this
        have hjm : j' < m := by
          have := (List.getElem?_eq_some_iff.1 hj').1
          have he : e.length = m := by
            rcases List.mem_or_eq_of_mem_set (List.mem_of_getElem? hi') with he | he
            · exact hm e he
            · rw [he]; exact hnl
          omega
        have hsg := fun k => splice_get (l := cs) (off := i * m + j) (vs := xv.cells.toList) (k := k) (by omega)
        have hconv : (⟨splice cs (i * m + j) xv.cells.toList⟩ : Array Value)[i' * m + j']? = (splice cs (i * m + j) xv.cells.toList)[i' * m + j']? := by simp
        rw [hconv, hsg, hvl]
        by_cases he : i' = i
        · subst he
          rw [List.getElem?_set_self hil] at hi'
          cases hi'
          by_cases h3 : j' < j
          · rw [if_pos (by omega)]
            rw [List.append_assoc, List.getElem?_append_left (by simp; omega), List.getElem?_take, if_pos h3] at hj'
            obtain ⟨c, hc1, hc2⟩ := hel i' _ j' d' hxi hj'
            exact ⟨c, by simpa using hc1, (hc2.mono r2.hw r2.hok).mono hc.hw hc.hok⟩
          · rw [if_neg (by omega)]
            by_cases h4 : j' < j + ti.size
            · rw [if_pos (by omega)]
              rw [List.append_assoc, List.getElem?_append_right (by simp; omega), List.getElem?_append_left (by simp; omega)] at hj'
              have hjj : (List.take j (lget xs i')).length = j := by simp; omega
              rw [hjj] at hj'
              obtain ⟨c, hc1, hc2⟩ := hdv.get hj'
              exact ⟨c, by rw [show i' * m + j' - (i' * m + j) = j' - j by omega]; exact hc1, hc2.mono hc.hw hc.hok⟩
            · rw [if_neg (by omega)]
              rw [List.getElem?_append_right (by simp; omega), List.getElem?_drop] at hj'
              have hidx : j + ds.length + (j' - (List.take j (lget xs i') ++ ds).length) = j' := by simp; omega
              rw [hidx] at hj'
              obtain ⟨c, hc1, hc2⟩ := hel i' _ j' d' hxi hj'
              exact ⟨c, by simpa using hc1, (hc2.mono r2.hw r2.hok).mono hc.hw hc.hok⟩
        · rw [List.getElem?_set_ne (Ne.symm he)] at hi'
          obtain ⟨c, hc1, hc2⟩ := hel i' e j' d' hi' hj'
          have hout : i' * m + j' < i * m + j ∨ i * m + j + ti.size ≤ i' * m + j' := by
            rcases Nat.lt_or_gt_of_ne he with hlt | hgt
            · have : (i' + 1) * m ≤ i * m := Nat.mul_le_mul_right _ hlt
              rw [Nat.add_mul] at this
              left; omega
            · have : (i + 1) * m ≤ i' * m := Nat.mul_le_mul_right _ hgt
              rw [Nat.add_mul] at this
              right; omega
          refine ⟨c, ?_, (hc2.mono r2.hw r2.hok).mono hc.hw hc.hok⟩
          have hc1' : cs[i' * m + j']? = some c := by simpa using hc1
          rcases hout with ho | ho
          · rw [if_pos ho]; exact hc1'
          · rw [if_neg (by omega), if_neg (by omega)]; exact hc1')
  refine ⟨_, lam, okB ok lam H ls, hrun, ?_⟩
  rw [updF_append, updF_one, updF_rem]
  have hne : ∀ k, (if n = k then some (AObj.arr m (xs.set i ((lget xs i).take j ++ ds ++ (lget xs i).drop (j + ds.length)))) else remF ls H k) ≠ none → H k ≠ none := fun k hk => by
    by_cases e : n = k
    · subst e; rw [hn]; simp
    · rw [if_neg e] at hk
      cases hh : remF ls H k with
      | none => exact absurd hh hk
      | some o => rw [(remF_ne hh).2]; simp
  refine ⟨⟨b1, fun k o ho => ?_, fun k hk => .inl (h.dom k (hne k hk)), fun c hc => ?_, fun k c hk hc => h.ownb k c (hne k hk) hc, by rw [m1]; exact h.size⟩, .d .und, .d _, ⟨m2, m3, m4, by rw [m1]; exact Nat.le_refl _, fun k hk hu => ?_, setCells_sized hb hszd⟩, fun y v hg hv => b2.v (r2.v hv hg) hg⟩
  · by_cases e : n = k
    · rw [if_pos e] at ho; cases ho; trivial
    · rw [if_neg e] at ho; exact (hg1 k o ho).mono fun _ h => .inl h
  · rcases hc with hc | ⟨k, _, hk1, hk2⟩
    · exact h.okb c hc
    · exact .inr (h.ownb k c hk1 hk2)
  · refine setCells_other b _ _ w k fun e => hu ?_
    subst e
    exact h.ownb n k (by rw [hn]; simp) hl

end
end Go.Rx
