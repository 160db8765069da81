/-
  Part of the proof that the abstract evaluator is right about the model's run; each lemma names its conditions.
-/
import Derived.Test.YtedopmfciabdcaaRxSound22
namespace Go.Rx
open Go Go.RowKit

/-! ### a state of a walk and a state of the machine -/

def evF (e : Nat → V) : Operand → V
  | .tmp t => e t
  | .const v => ofVal v
  | .global _ => .dead
  | .func f => .d (.clo f [])

theorem ev_evF (env : List (Nat × V)) : ev env = evF (eget env) := by funext x; cases x <;> rfl

def put1 (e : Nat → V) (dst : Option Nat) (v : V) : Nat → V := fun t => if dst = some t then v else e t

/-- The temporaries: how many, which are never written, what those hold. -/
structure Slots where
  size : Nat
  pin : Nat → Bool
  val : Nat → Value

def Slots.can (N : Slots) (d : Nat) : Prop := d < N.size ∧ N.pin d = false

structure SRo (okIn U : Nat → Prop) (w0 : World) (N : Slots) (p : Nat → Prop) (e : Nat → V) (H : Heap) (a : Act) (w : World) (ok : Nat → Prop) (lam : Nat → Option Nat) : Prop where
  ctx : Ctx okIn U w0 p w ok lam H
  rel : ∀ t, VRel w ok lam H (e t) (a.tmps.getD t undef)
  good : ∀ t, VGood p (e t)
  size : a.tmps.size = N.size
  pin : ∀ t, N.pin t = true → a.tmps.getD t undef = N.val t
  defers : a.defers = []
  fr : Fr2 U w0 w0 w

def SR (okIn U : Nat → Prop) (w0 : World) (N : Slots) (p : Nat → Prop) (e : Nat → V) (H : Heap) (a : Act) (w : World) : Prop :=
  ∃ ok lam, SRo okIn U w0 N p e H a w ok lam

section
variable {P : Program} {T : Tys} {okIn U : Nat → Prop} {w0 : World} {N : Slots} {p p' : Nat → Prop} {e : Nat → V} {H H' : Heap} {a : Act} {w w' : World} {ok ok' : Nat → Prop} {lam lam' : Nat → Option Nat} {v0 : V} {cv : Value}

theorem Fr2.trans {w1 w2 : World} (h1 : Fr2 U w0 w0 w1) (h2 : Fr2 U w0 w1 w2) : Fr2 U w0 w0 w2 where
  os := h2.os.trans h1.os
  tape := h2.tape.trans h1.tape
  output := h2.output.trans h1.output
  size := Nat.le_trans h1.size h2.size
  block k hk hn := (h2.block k (Nat.lt_of_lt_of_le hk h1.size) hn).trans (h1.block k hk hn)
  sized := h1.sized.trans h2.sized

theorem Act.getD_put {a : Act} {dst : Option Nat} {v : Value} (hd : ∀ d, dst = some d → d < a.tmps.size) (t : Nat) :
    (a.put dst v).tmps.getD t undef = if dst = some t then v else a.tmps.getD t undef := by
  cases dst with
  | none => simp [Act.put]
  | some d =>
    have := hd d rfl
    simp only [Act.put, Option.some.injEq]
    by_cases hdt : d = t
    · subst hdt; simp [Array.getD, this]
    · rw [if_neg hdt]; by_cases ht : t < a.tmps.size <;> simp [Array.getD, ht, Array.getElem_setIfInBounds, hdt]

theorem Act.size_put {a : Act} {dst : Option Nat} {v : Value} : (a.put dst v).tmps.size = a.tmps.size := by
  cases dst <;> simp [Act.put]

theorem Act.defers_put {a : Act} {dst : Option Nat} {v : Value} : (a.put dst v).defers = a.defers := by
  cases dst <;> rfl

theorem SRo.step (h : SRo okIn U w0 N p e H a w ok lam) (hpp : ∀ n, p n → p' n) {dst : Option Nat} (hd : ∀ d, dst = some d → N.can d) (hE : Eff okIn U w0 p p' w ok lam H v0 H' w' cv lam' ok') :
    SRo okIn U w0 N p' (put1 e dst v0) H' (a.put dst cv) w' ok' lam' where
  ctx := hE.ctx
  rel t := by
    rw [Act.getD_put (by rw [h.size]; exact fun d h => (hd d h).1)]
    unfold put1
    by_cases hdt : dst = some t
    · rw [if_pos hdt, if_pos hdt]; exact hE.val
    · rw [if_neg hdt, if_neg hdt]; exact hE.stab _ _ (h.good t) (h.rel t)
  good t := by
    unfold put1
    by_cases hdt : dst = some t
    · rw [if_pos hdt]; exact hE.vgood
    · rw [if_neg hdt]; exact (h.good t).mono hpp
  size := Act.size_put.trans h.size
  pin t ht := by
    rw [Act.getD_put (by rw [h.size]; exact fun d h => (hd d h).1), if_neg]
    · exact h.pin t ht
    · intro hdt
      have := (hd t hdt).2
      rw [ht] at this; cases this
  defers := Act.defers_put.trans h.defers
  fr := Fr2.trans h.fr hE.fr

theorem SRo.skip (h : SRo okIn U w0 N p e H a w ok lam) {dst : Option Nat} (hd : ∀ d, dst = some d → N.can d) :
    SRo okIn U w0 N p (put1 e dst (.d .und)) H (a.put dst undef) w ok lam :=
  h.step (fun _ h => h) hd (Eff.quiet h.ctx (fun _ h => h) (.d .und) (.d _))

theorem SRo.mono (h : SRo okIn U w0 N p e H a w ok lam) (hpp : ∀ n, p n → p' n) : SRo okIn U w0 N p' e H a w ok lam where
  ctx := ⟨h.ctx.hok, fun n o ho => (h.ctx.good n o ho).mono hpp, fun n hn => hpp n (h.ctx.dom n hn), h.ctx.okb, h.ctx.ownb, h.ctx.size⟩
  rel := h.rel
  good t := (h.good t).mono hpp
  size := h.size
  pin := h.pin
  defers := h.defers
  fr := h.fr

theorem SRo.drawn (h : SRo okIn U w0 N p e H a w ok lam) (k : Nat) : SRo okIn U w0 N p e H a { w with drawn := k } ok lam := by
  have hc : Chg (fun _ => True) w ok lam H { w with drawn := k } ok lam H := Chg.of_old (fun _ _ => rfl) h.ctx.hok.oklt (fun _ h => h) (fun _ _ => .inr rfl) (fun _ _ _ => rfl)
  have hg : ∀ o, OGood (fun _ => True) o := fun o => by cases o with | box c => exact fun v _ => VGood.all v | arr => trivial
  exact { ctx := ⟨⟨h.ctx.hok.inj, h.ctx.hok.lt, h.ctx.hok.dis, h.ctx.hok.oklt, fun n o ho => ObjRel.chg hc trivial (by rw [ho]; simp) (hg o) (fun _ _ => rfl) (h.ctx.hok.obj n o ho)⟩, h.ctx.good, h.ctx.dom, h.ctx.okb, h.ctx.ownb, h.ctx.size⟩
          rel := fun t => hc.v (h.rel t) (VGood.all _)
          good := h.good
          size := h.size
          pin := h.pin
          defers := h.defers
          fr := ⟨h.fr.os, h.fr.tape, h.fr.output, h.fr.size, h.fr.block, h.fr.sized⟩ }

theorem ofCell_rel (v : Value) : VRel w ok lam H (ofCell v) v := by
  cases v with
  | int k n => exact .d (.int k n)
  | bool b => exact .d (.bool b)
  | string s =>
    simp only [ofCell]
    cases hl : s.data.toList.length.ble 4096 with
    | false => exact .dead
    | true =>
      have : s.data.toList.length ≤ LEN := by have := Nat.le_of_ble_eq_true hl; unfold LEN; omega
      exact .d (.str _ this)
  | pointer A => cases A with
    | none => exact .d .nilp
    | some A => exact .dead
  | slice A l c => cases A with
    | none =>
      cases l with
      | zero => cases c with
        | zero => exact .nils
        | succ c => exact .dead
      | succ l => exact .dead
    | some A => exact .dead
  | _ => exact .dead

theorem ofVal_rel (v : Value) : VRel w ok lam H (ofVal v) v := by
  have key : ∀ (cs : Array Value), Rel2 (VRel w ok lam H) (cs.toList.map ofCell) cs.toList := fun cs => ⟨by simp, fun i x y hx hy => by
    rw [List.getElem?_map, hy] at hx; simp at hx; subst hx; exact ofCell_rel y⟩
  cases v with
  | agg cs => exact VRel.mkAgg (key cs)
  | tuple cs => exact VRel.mkTup (key cs)
  | _ => simp only [ofVal]; exact ofCell_rel _

theorem ofCell_good (v : Value) : VGood p (ofCell v) := by
  unfold ofCell
  split <;> first | exact .d _ | exact .nils | exact .dead | (cases List.length _ |>.ble 4096 <;> first | exact .d _ | exact .dead)

theorem ofVal_good (v : Value) : VGood p (ofVal v) := by
  cases v with
  | agg cs => exact .agg fun x hx => by obtain ⟨y, _, rfl⟩ := List.mem_map.1 hx; exact ofCell_good y
  | tuple cs => exact .tup fun x hx => by obtain ⟨y, _, rfl⟩ := List.mem_map.1 hx; exact ofCell_good y
  | _ => simp only [ofVal]; exact ofCell_good _

theorem SRo.ev (h : SRo okIn U w0 N p e H a w ok lam) (x : Operand) : VRel w ok lam H (evF e x) (a.eval x) := by
  cases x with
  | tmp t => exact h.rel t
  | const v => exact ofVal_rel v
  | global g => exact .dead
  | func f => exact .d (.clo f [] [] rfl fun i d v h1 _ => by simp at h1)

theorem SRo.evGood (h : SRo okIn U w0 N p e H a w ok lam) (x : Operand) : VGood p (evF e x) := by
  cases x with
  | tmp t => exact h.good t
  | const v => exact ofVal_good v
  | global g => exact .dead
  | func f => exact .d _

/-- An operation at a state: its value, its change, its marks. -/
def Acts (T : Tys) (P : Program) (all : List Oper) (i : Nat) (o : Oper) (e : Nat → V) (H : Heap) (v : V) (u : Upd) (f : Foot) : Prop :=
  match o.guard with
  | none => opVC T P i o (evF e) H (eqK v u) ∧ f = ⟨tmpsOf o, o.dst, rdN o (evF e) H, u.map (·.1)⟩
  | some (j, want) => ∃ t, guardT all j = some t ∧
    ((e t = .d (.bool want) ∧ opVC T P i o (evF e) H (eqK v u) ∧ f = ⟨t :: tmpsOf o, o.dst, rdN o (evF e) H, u.map (·.1)⟩) ∨
     ((e t = .d (.bool (!want)) ∨ e t = .d .und) ∧ v = .d .und ∧ u = [] ∧ f = ⟨[t], o.dst, [], []⟩))

theorem yielded_of {ops : Array Oper} {tmps : Array Value} {j t : Nat} (hg : guardT ops.toList j = some t) : yielded ops tmps j = (match tmps.getD t undef with | .bool b => some b | _ => none) := by
  unfold guardT at hg
  unfold yielded
  have : (ops[j]?).bind (·.dst) = some t := by rw [← Array.getElem?_toList]; exact hg
  rw [this]
  simp only [Option.bind_some]
  rcases Nat.lt_or_ge t tmps.size with hlt | hge
  · simp [Array.getD, hlt]
    split <;> simp_all
  · simp [Array.getD, Nat.not_lt.2 hge, undef]

theorem acts_wp (hT : TyOK P T) (h : SR okIn U w0 N p e H a w) {ops : Array Oper} {i : Nat} {o : Oper} (hi : ops[i]? = some o) (hf : Fresh p (1000 * (i + 1))) (hd : ∀ d, o.dst = some d → N.can d)
    {u : Upd} {f : Foot} (hA : Acts T P ops.toList i o e H v0 u f) {Q : Exit → Act → World → Prop} {K : Act → World → Prop}
    (hK : ∀ a' w', SR okIn U w0 N (pX p (1000 * (i + 1))) (put1 e o.dst v0) (updF u H) a' w' → K a' w') : wpOp P ops Q i K a w := by
  obtain ⟨ok, lam, h⟩ := h
  have run : opVC T P i o (evF e) H (eqK v0 u) → o.wp P a w K Q := fun hop =>
    Oper.wp_mono (fun a' w' ⟨cv, lam', ok', ha, hE⟩ => hK a' w' ⟨ok', lam', by rw [ha]; exact h.step (fun n hn => .inl hn) hd hE⟩) (op_sound hT h.ctx hf h.ev h.evGood hop)
  have skip : v0 = .d .und → u = [] → K (a.put o.dst undef) w := fun hv hu => hK _ _ ⟨ok, lam, by rw [hv, hu]; exact (h.skip hd).mono fun n hn => .inl hn⟩
  unfold wpOp
  rw [hi]
  simp only
  cases hgd : o.guard with
  | none =>
    simp only [Acts, hgd] at hA
    simp only [Region.wanted, hgd, if_true]
    exact .inl (run hA.1)
  | some q =>
    obtain ⟨j, want⟩ := q
    simp only [Acts, hgd] at hA
    obtain ⟨t, ht, hA⟩ := hA
    have hy := yielded_of (tmps := a.tmps) ht
    have hr := h.rel t
    simp only [Region.wanted, hgd]
    rcases hA with ⟨he, hop, _⟩ | ⟨he, hv, hu, _⟩
    · rw [he] at hr
      have : a.tmps.getD t undef = .bool want := by generalize a.tmps.getD t undef = y at hr; cases hr.inv_d; rfl
      rw [hy, this]
      simp only [beq_self_eq_true, if_true]
      exact .inl (run hop)
    · have hn : (yielded ops a.tmps j == some want) = false := by
        rw [hy]
        rcases he with he | he
        · rw [he] at hr
          have : a.tmps.getD t undef = .bool (!want) := by generalize a.tmps.getD t undef = y at hr; cases hr.inv_d; rfl
          rw [this]; cases want <;> rfl
        · rw [he] at hr
          have : a.tmps.getD t undef = undef := by generalize a.tmps.getD t undef = y at hr; cases hr.inv_d; rfl
          rw [this]; rfl
      rw [hn]
      simp only [Bool.false_eq_true, if_false]
      exact skip hv hu

end
end Go.Rx
