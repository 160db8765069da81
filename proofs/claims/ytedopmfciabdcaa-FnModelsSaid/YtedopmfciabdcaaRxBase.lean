/-
  What data and values of the abstract evaluator are in a world, and that these relations stay where the world grows; no condition.
-/
import Derived.Orders
import Derived.Below
import Derived.Laws.IdiomCopy
import Derived.Laws.Rows
import Derived.Laws.OwnMore
import Derived.Laws.MakeOwn
import Derived.Deep.MidRow
namespace Go.Rx
open Go Go.RowKit

/-! ### data, values, objects -/

inductive D where
  | int (k : IntKind) (n : Int)
  | bool (b : Bool)
  | str (s : List UInt8)
  | sl (xs : List (List D))
  | agg (cs : List D)
  | ptr (cs : List D)
  | clo (f : FuncId) (cs : List D)
  | nilp
  | und

instance : Inhabited D := ⟨.und⟩

def MAX : Nat := 140737488355328
/-- How long a string or a slice may be that is handed in. -/
def LEN : Nat := 9223372036854775807

inductive DRel (w : World) (ok : Nat → Prop) : D → Value → Prop
  | int (k : IntKind) (n : Int) : DRel w ok (.int k n) (.int k n)
  | bool (b : Bool) : DRel w ok (.bool b) (.bool b)
  | str (s : List UInt8) (h : s.length ≤ LEN) : DRel w ok (.str s) (.string ⟨⟨s⟩⟩)
  | sl0 (A : Option Addr) (c : Nat) : DRel w ok (.sl []) (.slice A 0 c)
  | sl (xs : List (List D)) (m b o cap : Nat) (vs : Nat → Value) (hc : xs.length ≤ cap) (hm : xs.length ≤ LEN) (hb : ok b) (hl : ∀ e ∈ xs, e.length = m)
      (hv : ∀ (i : Nat) e (j : Nat) d, xs[i]? = some e → e[j]? = some d → w.cell? ⟨b, o + (i * m + j), none⟩ = some (vs (i * m + j)))
      (hd : ∀ (i : Nat) e (j : Nat) d, xs[i]? = some e → e[j]? = some d → DRel w ok d (vs (i * m + j))) :
      DRel w ok (.sl xs) (.slice (some ⟨b, o, none⟩) xs.length cap)
  | agg (cs : List D) (vs : List Value) (hl : cs.length = vs.length) (hd : ∀ (i : Nat) d v, cs[i]? = some d → vs[i]? = some v → DRel w ok d v) :
      DRel w ok (.agg cs) (.agg ⟨vs⟩)
  | ptr (cs : List D) (b o : Nat) (vs : Nat → Value) (hb : ok b) (hv : ∀ (j : Nat) d, cs[j]? = some d → w.cell? ⟨b, o + j, none⟩ = some (vs j))
      (hd : ∀ (j : Nat) d, cs[j]? = some d → DRel w ok d (vs j)) : DRel w ok (.ptr cs) (.pointer (some ⟨b, o, none⟩))
  | clo (f : FuncId) (cs : List D) (vs : List Value) (hl : cs.length = vs.length) (hd : ∀ (i : Nat) d v, cs[i]? = some d → vs[i]? = some v → DRel w ok d v) :
      DRel w ok (.clo f cs) (.func (.func f) #[] ⟨vs⟩)
  | nilp : DRel w ok .nilp (.pointer none)
  | und : DRel w ok .und undef

theorem DRel.mono {w w' : World} {ok ok' : Nat → Prop} {d : D} {v : Value} (h : DRel w ok d v)
    (hw : ∀ b, ok b → w'.heap[b]? = w.heap[b]?) (hok : ∀ b, ok b → ok' b) : DRel w' ok' d v := by
  induction h with
  | int k n => exact .int k n
  | bool b => exact .bool b
  | str s h => exact .str s h
  | sl0 A c => exact .sl0 A c
  | sl xs m b o cap vs hc hm hb hl hv hd ih =>
    exact .sl xs m b o cap vs hc hm (hok b hb) hl (fun i e j d h1 h2 => (World.cell?_of_block (w := w) (hw b hb)).trans (hv i e j d h1 h2)) ih
  | agg cs vs hl hd ih => exact .agg cs vs hl ih
  | ptr cs b o vs hb hv hd ih => exact .ptr cs b o vs (hok b hb) (fun j d h1 => (World.cell?_of_block (w := w) (hw b hb)).trans (hv j d h1)) ih
  | clo f cs vs hl hd ih => exact .clo f cs vs hl ih
  | nilp => exact .nilp
  | und => exact .und

inductive V where
  | d (x : D)
  | ref (n off : Nat)
  | el (n i j : Nat)
  | own (n off len : Nat)
  | nils
  | agg (vs : List V)
  | tup (vs : List V)
  | clo (f : FuncId) (vs : List V)
  | dead

instance : Inhabited V := ⟨.dead⟩

inductive AObj where
  | box (cells : List V)
  | arr (m : Nat) (xs : List (List D))

/-- What a slice over an array of our own reads as. -/
def OwnV (w : World) (lam : Nat → Option Nat) (n m : Nat) (xs : List (List D)) (off len : Nat) (v : Value) : Prop :=
  off + len ≤ xs.length ∧
  ((lam n = none ∧ v = .slice none 0 0 ∧ len = 0) ∨
   ∃ b o cap cs T fr, lam n = some b ∧ v = .slice (some ⟨b, o, none⟩) len cap ∧ len ≤ cap ∧ (cap = 0 ∨ o = off * m) ∧
     w.heap[b]? = some (.cells cs T fr) ∧ (off + cap) * m ≤ cs.size)

inductive VRel (w : World) (ok : Nat → Prop) (lam : Nat → Option Nat) (H : Nat → Option AObj) : V → Value → Prop
  | d {x : D} {v : Value} (h : DRel w ok x v) : VRel w ok lam H (.d x) v
  | ref {n off : Nat} {v : Value} (h1 : ∃ A, v = .pointer A) (h : ∀ o, H n = some o → ∃ b, lam n = some b ∧ v = .pointer (some ⟨b, off, none⟩)) : VRel w ok lam H (.ref n off) v
  | el {n i j : Nat} {v : Value} (h1 : ∃ A, v = .pointer A) (h : ∀ m xs, H n = some (.arr m xs) → i < xs.length ∧ ∃ b, lam n = some b ∧ v = .pointer (some ⟨b, i * m + j, none⟩)) : VRel w ok lam H (.el n i j) v
  | own {n off len : Nat} {v : Value} (h1 : ∃ A l c, v = .slice A l c) (h : ∀ m xs, H n = some (.arr m xs) → OwnV w lam n m xs off len v) : VRel w ok lam H (.own n off len) v
  | nils : VRel w ok lam H .nils (.slice none 0 0)
  | agg {cs : List V} {vs : List Value} (hl : cs.length = vs.length) (hd : ∀ (i : Nat) d v, cs[i]? = some d → vs[i]? = some v → VRel w ok lam H d v) :
      VRel w ok lam H (.agg cs) (.agg ⟨vs⟩)
  | tup {cs : List V} {vs : List Value} (hl : cs.length = vs.length) (hd : ∀ (i : Nat) d v, cs[i]? = some d → vs[i]? = some v → VRel w ok lam H d v) :
      VRel w ok lam H (.tup cs) (.tuple ⟨vs⟩)
  | clo {f : FuncId} {cs : List V} {vs : List Value} (hl : cs.length = vs.length) (hd : ∀ (i : Nat) d v, cs[i]? = some d → vs[i]? = some v → VRel w ok lam H d v) :
      VRel w ok lam H (.clo f cs) (.func (.func f) #[] ⟨vs⟩)
  | dead {v : Value} : VRel w ok lam H .dead v

/-- All names of a value have p. -/
inductive VGood (p : Nat → Prop) : V → Prop
  | d (x : D) : VGood p (.d x)
  | ref {n off : Nat} (h : p n) : VGood p (.ref n off)
  | el {n i j : Nat} (h : p n) : VGood p (.el n i j)
  | own {n off len : Nat} (h : p n) : VGood p (.own n off len)
  | nils : VGood p .nils
  | agg {cs : List V} (h : ∀ v ∈ cs, VGood p v) : VGood p (.agg cs)
  | tup {cs : List V} (h : ∀ v ∈ cs, VGood p v) : VGood p (.tup cs)
  | clo {f : FuncId} {cs : List V} (h : ∀ v ∈ cs, VGood p v) : VGood p (.clo f cs)
  | dead : VGood p .dead

def OGood (p : Nat → Prop) : AObj → Prop
  | .box cells => ∀ v ∈ cells, VGood p v
  | .arr _ _ => True

theorem VGood.mono {p q : Nat → Prop} {v : V} (h : VGood p v) (hpq : ∀ n, p n → q n) : VGood q v := by
  induction h with
  | d x => exact .d x
  | ref h => exact .ref (hpq _ h)
  | el h => exact .el (hpq _ h)
  | own h => exact .own (hpq _ h)
  | nils => exact .nils
  | agg h ih => exact .agg ih
  | tup h ih => exact .tup ih
  | clo h ih => exact .clo ih
  | dead => exact .dead

theorem OGood.mono {p q : Nat → Prop} {o : AObj} (h : OGood p o) (hpq : ∀ n, p n → q n) : OGood q o := by
  cases o with
  | box cells => exact fun v hv => (h v hv).mono hpq
  | arr m xs => trivial

/-- Where the heap of names changes: names that a value bears either are gone or are as they were (an array may hold other elements, as many), a box stays a box. -/
theorem VRel.mono {w w' : World} {ok ok' : Nat → Prop} {lam lam' : Nat → Option Nat} {H H' : Nat → Option AObj} {p : Nat → Prop} {x : V} {v : Value}
    (h : VRel w ok lam H x v) (hg : VGood p x)
    (hw : ∀ b, ok b → w'.heap[b]? = w.heap[b]?) (hok : ∀ b, ok b → ok' b)
    (hl : ∀ n, p n → H' n ≠ none → lam' n = lam n)
    (hbox : ∀ n, p n → ∀ c', H' n = some (.box c') → ∃ c, H n = some (.box c))
    (harr : ∀ n, p n → ∀ m xs', H' n = some (.arr m xs') → ∃ xs, H n = some (.arr m xs) ∧ xs.length = xs'.length)
    (hsz : ∀ n b cs T fr m xs', p n → H' n = some (.arr m xs') → lam n = some b → w.heap[b]? = some (.cells cs T fr) → ∃ cs' T' fr', w'.heap[b]? = some (.cells cs' T' fr') ∧ cs'.size = cs.size) :
    VRel w' ok' lam' H' x v := by
  induction h with
  | d h => exact .d (h.mono hw hok)
  | ref h1 h =>
    cases hg with | ref hp =>
    refine .ref h1 fun o ho => ?_
    have hl' := hl _ hp (by rw [ho]; simp)
    cases o with
    | box c' => obtain ⟨c, hc⟩ := hbox _ hp c' ho; obtain ⟨b, hb, hv⟩ := h _ hc; exact ⟨b, hl'.trans hb, hv⟩
    | arr m xs' => obtain ⟨xs, hx, _⟩ := harr _ hp m xs' ho; obtain ⟨b, hb, hv⟩ := h _ hx; exact ⟨b, hl'.trans hb, hv⟩
  | el h1 h =>
    cases hg with | el hp =>
    refine .el h1 fun m xs' ho => ?_
    have hl' := hl _ hp (by rw [ho]; simp)
    obtain ⟨xs, hx, hlen⟩ := harr _ hp m xs' ho
    obtain ⟨hi, b, hb, hv⟩ := h _ _ hx
    exact ⟨hlen ▸ hi, b, hl'.trans hb, hv⟩
  | own h1 h =>
    cases hg with | own hp =>
    refine .own h1 fun m xs' ho => ?_
    have hl' := hl _ hp (by rw [ho]; simp)
    obtain ⟨xs, hx, hlen⟩ := harr _ hp m xs' ho
    obtain ⟨hle, hcase⟩ := h m xs hx
    refine ⟨hlen ▸ hle, ?_⟩
    rcases hcase with ⟨g1, h2, h3⟩ | ⟨b, o, cap, cs, T, fr, g1, h2, h3, h4, h5, h6⟩
    · exact .inl ⟨hl'.trans g1, h2, h3⟩
    · obtain ⟨cs', T', fr', h7, h8⟩ := hsz _ b cs T fr m xs' hp ho g1 h5
      exact .inr ⟨b, o, cap, cs', T', fr', hl'.trans g1, h2, h3, h4, h7, by rw [h8]; exact h6⟩
  | nils => exact .nils
  | agg hl hd ih =>
    cases hg with | agg hp =>
    exact .agg hl fun i d v h1 h2 => ih i d v h1 h2 (hp _ (List.mem_of_getElem? h1))
  | tup hl hd ih =>
    cases hg with | tup hp =>
    exact .tup hl fun i d v h1 h2 => ih i d v h1 h2 (hp _ (List.mem_of_getElem? h1))
  | clo hl hd ih =>
    cases hg with | clo hp =>
    exact .clo hl fun i d v h1 h2 => ih i d v h1 h2 (hp _ (List.mem_of_getElem? h1))
  | dead => exact .dead

def ObjRel (w : World) (ok : Nat → Prop) (lam : Nat → Option Nat) (H : Nat → Option AObj) (n : Nat) : AObj → Prop
  | .box cells => ∃ b cs T, lam n = some b ∧ w.heap[b]? = some (.cells cs T (0, 0)) ∧ cells.length = cs.size ∧
      ∀ (i : Nat) v c, cells[i]? = some v → cs[i]? = some c → VRel w ok lam H v c
  | .arr m xs => (∀ e ∈ xs, e.length = m) ∧ xs.length ≤ MAX ∧
      ((lam n = none ∧ xs = []) ∨
       ∃ b cs T fr, lam n = some b ∧ w.heap[b]? = some (.cells cs T fr) ∧ (∀ i, i < cs.size → w.frozen? ⟨b, i, none⟩ = false) ∧ xs.length * m ≤ cs.size ∧
         ∀ (i : Nat) e (j : Nat) d, xs[i]? = some e → e[j]? = some d → ∃ c, cs[i * m + j]? = some c ∧ DRel w ok d c)

structure HOK (w : World) (ok : Nat → Prop) (lam : Nat → Option Nat) (H : Nat → Option AObj) : Prop where
  inj : ∀ n n' b, H n ≠ none → H n' ≠ none → lam n = some b → lam n' = some b → n = n'
  lt : ∀ n b, H n ≠ none → lam n = some b → b < w.heap.size
  dis : ∀ n b, H n ≠ none → lam n = some b → ¬ ok b
  oklt : ∀ b, ok b → b < w.heap.size
  obj : ∀ n o, H n = some o → ObjRel w ok lam H n o

/-- Blocks of cells keep their size. -/
def Sized (w w' : World) : Prop := ∀ (k : Nat) (cs : Array Value) (T : TypeId) (fr : Nat × Nat), w.heap[k]? = some (.cells cs T fr) →
  ∃ (cs' : Array Value) (T' : TypeId) (fr' : Nat × Nat), w'.heap[k]? = some (.cells cs' T' fr') ∧ cs'.size = cs.size

/-- The world behind a step: what is not ours is as it was. -/
structure Fr (U : Nat → Prop) (w w' : World) : Prop where
  os : w'.os = w.os
  tape : w'.tape = w.tape
  output : w'.output = w.output
  size : w.heap.size ≤ w'.heap.size
  block : ∀ k, k < w.heap.size → ¬ U k → w'.heap[k]? = w.heap[k]?
  sized : Sized w w'

theorem lt_of_some {w : World} {k : Nat} {o : Obj} (h : w.heap[k]? = some o) : k < w.heap.size := (Array.getElem?_eq_some_iff.1 h).1

/-- Blocks that are as they were have as many cells. -/
theorem sized_same {w w' : World} (h : ∀ k, k < w.heap.size → w'.heap[k]? = w.heap[k]?) : Sized w w' :=
  fun k cs T fr e => ⟨cs, T, fr, (h k (lt_of_some e)).trans e, rfl⟩

theorem Sized.trans {a b c : World} (h : Sized a b) (k : Sized b c) : Sized a c := fun i cs T fr e => by
  obtain ⟨cs', T', fr', e', h1⟩ := h i cs T fr e
  obtain ⟨cs2, T2, fr2, e2, h2⟩ := k i cs' T' fr' e'
  exact ⟨cs2, T2, fr2, e2, h2.trans h1⟩

/-- One block has other cells, as many. -/
theorem sized_one {w w' : World} {b : Nat} {cb : Array Value} {Tb : TypeId} {fb : Nat × Nat} (hb : w'.heap[b]? = some (.cells cb Tb fb)) (hs : ∀ (cs : Array Value) (T : TypeId) (fr : Nat × Nat), w.heap[b]? = some (.cells cs T fr) → cb.size = cs.size)
    (h : ∀ k, k < w.heap.size → k ≠ b → w'.heap[k]? = w.heap[k]?) : Sized w w' := fun k cs T fr e => by
  by_cases hk : k = b
  · subst hk; exact ⟨cb, Tb, fb, hb, hs cs T fr e⟩
  · exact ⟨cs, T, fr, (h k (lt_of_some e) hk).trans e, rfl⟩

theorem Fr.refl (U : Nat → Prop) (w : World) : Fr U w w := ⟨rfl, rfl, rfl, Nat.le_refl _, fun _ _ _ => rfl, sized_same fun _ _ => rfl⟩

end Go.Rx
