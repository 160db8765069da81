/-
  Part 3: an evaluator over plain data of the model's code with its proof, plain laws on lists and numbers, and contracts of functions of the program; each lemma names its conditions.
-/
import Derived.Test.YtllkpikamadebaaRx2
import Derived.KernelRfl
import Derived.Test.YtllkpikamadebaaRx1

set_option linter.unusedSimpArgs false
set_option linter.unusedVariables false

namespace Go.Rx
open Go Go.RowKit

/-! ### functions -/

theorem load_asAddr {P : Program} {w : World} {ty : Nat} {z cv : Value} (h : (Instr.loadAt ty z).run P w = .ok cv w) : (do loadVar ty (← asAddr z)).run P w = .ok cv w := by
  unfold Instr.loadAt at h
  cases z with
  | pointer A => cases A with
    | some A => simpa [Instr.sureAddr, asAddr] using h
    | none => simp [Instr.sureAddr, stuck, Sem.run_bind, Sem.run, Result.andThen] at h
  | _ => simp [Instr.sureAddr, stuck, Sem.run_bind, Sem.run, Result.andThen] at h

theorem res_sound {P : Program} {T : Tys} (hT : TyOK P T) {okIn U : Nat → Prop} {w0 : World} {N : Slots} {p : Nat → Prop} {s : St} {a : Act} {w : World} {ok : Nat → Prop} {lam : Nat → Option Nat}
    (h : SRo okIn U w0 N p (eget s.env) (uget s.H) a w ok lam) {f : ResultVar → Sem Value} (hf : ∀ t, f (.tmp t) = pure (a.tmps.getD t undef)) (hc : ∀ t ty, f (.cell t ty) = do loadVar ty (← asAddr (a.tmps.getD t undef))) :
    ∀ {rs : List ResultVar} {K : List V → Prop}, resK T s rs K → ∃ vs cvs, K vs ∧ (rs.mapM (m := Sem) f).run P w = .ok cvs w ∧ Rel2 (VRel w ok lam (uget s.H)) vs cvs
  | [], K, hK => ⟨[], [], hK, rfl, Rel2.nil _⟩
  | .tmp t :: rs, K, hK => by
    obtain ⟨vs, cvs, h1, h2, h3⟩ := res_sound hT h hf hc (rs := rs) hK
    refine ⟨_, a.tmps.getD t undef :: cvs, h1, ?_, ⟨by simp [h3.1], fun i x y hx hy => ?_⟩⟩
    · rw [List.mapM_cons, hf]; simp [h2]
    · cases i with
      | zero => simp only [List.getElem?_cons_zero, Option.some.injEq] at hx hy; subst hx; subst hy; exact h.rel t
      | succ i => exact h3.2 i x y (by simpa using hx) (by simpa using hy)
  | .cell t ty :: rs, K, hK => by
    obtain ⟨v, u, hl, hr⟩ := wit_load _ hK
    obtain ⟨vs, cvs, h1, h2, h3⟩ := res_sound hT h hf hc (rs := rs) hr
    obtain ⟨cv, hrun, _, hv, _⟩ := load_sound (q := p) hT h.ctx.hok (h.rel t) hl
    refine ⟨_, cv :: cvs, h1, ?_, ⟨by simp [h3.1], fun i x y hx hy => ?_⟩⟩
    · have hl' : (f (.cell t ty)).run P w = .ok cv w := by rw [hc]; exact load_asAddr hrun
      rw [List.mapM_cons]
      simp [Sem.run_bind, h2, hl']
    · cases i with
      | zero => simp only [List.getElem?_cons_zero, Option.some.injEq] at hx hy; subst hx; subst hy; exact hv
      | succ i => exact h3.2 i x y (by simpa using hx) (by simpa using hy)

def oneV : List Value → Value
  | [v] => v
  | vs => .tuple ⟨vs⟩

theorem one_rel {w : World} {ok : Nat → Prop} {lam : Nat → Option Nat} {H : Heap} {vs : List V} {cvs : List Value} (h : Rel2 (VRel w ok lam H) vs cvs) :
    VRel w ok lam H (one vs) (oneV cvs) := by
  match vs, cvs, h with
  | [v], [cv], h => exact h.2 0 _ _ rfl rfl
  | [], [], h => exact VRel.mkTup h
  | _ :: _ :: _, _ :: _ :: _, h => exact VRel.mkTup h
  | [], _ :: _, h => have := h.1; simp at this
  | [_], [], h => have := h.1; simp at this
  | [_], _ :: _ :: _, h => have := h.1; simp at this
  | _ :: _ :: _, [], h => have := h.1; simp at this
  | _ :: _ :: _, [_], h => have := h.1; simp at this

theorem results_run {P : Program} {fn : Func} {tmps : Array Value} {w : World} {cvs : List Value} {f : ResultVar → Sem Value}
    (hf : ∀ t, f (.tmp t) = pure (tmps.getD t undef)) (hc : ∀ t ty, f (.cell t ty) = do loadVar ty (← asAddr (tmps.getD t undef)))
    (h : (fn.results.toList.mapM (m := Sem) f).run P w = .ok cvs w) :
    (results fn tmps).run P w = .ok (oneV cvs) w := by
  unfold results
  rw [Array.mapM_eq_mapM_toList]
  refine Eq.trans (b := ((do let vs ← List.toArray <$> fn.results.toList.mapM (m := Sem) f; pure (if h : vs.size = 1 then vs[0] else .tuple vs)) : Sem Value).run P w) ?_ ?_
  · congr 4
    funext r
    cases r with
    | tmp t => rw [hf]
    | cell a t => rw [hc]
  · rw [map_eq_pure_bind, Sem.run_bind, Sem.run_bind, h]
    match cvs with
    | [] => rfl
    | [v] => rfl
    | _ :: _ :: _ => rfl

def startE : Nat → List V → List (Nat × V)
  | _, [] => []
  | i, v :: l => (i, v) :: startE (i + 1) l

theorem eget_start : ∀ (l : List V) (i t : Nat), eget (startE i l) (i + t) = (l[t]?).getD .dead
  | [], i, t => by simp [startE, eget]
  | v :: l, i, t => by
    simp only [startE, eget]
    cases t with
    | zero => simp
    | succ t =>
      have h : (i == i + (t + 1)) = false := by simp
      rw [h, cond_false]
      have := eget_start l (i + 1) t
      rw [show i + (t + 1) = i + 1 + t by omega, this]
      simp

def start (args : List V) (H : List (Nat × AObj)) : St := ⟨startE 0 args, H.map fun p => (p.1, some p.2)⟩

/-- What a call of f comes to. -/
def retK (rs : List ResultVar) (np : List Bool) (T : Tys) (outs : List V) (res : V) (H' : List (Nat × AObj)) : Exit → St → Prop
  | .normal, s | .ret, s => resK T s rs fun vs => leaves np s (one vs) = (outs, res, H')
  | _, _ => False

def canSlot (n : Nat) (np : List Bool) (d : Nat) : Bool := Nat.blt d n && !(np.getD d false)

theorem outs_at (env : List (Nat × V)) : ∀ (np : List Bool) (i j : Nat) x, (outsV env i np)[j]? = some x → (np[j]? = some true ∧ x = eget env (i + j)) ∨ x = .dead
  | [], i, j, x, h => by simp [outsV] at h
  | b :: np, i, j, x, h => by
    simp only [outsV] at h
    cases j with
    | zero =>
      simp at h; subst h
      cases b
      · exact .inr rfl
      · exact .inl ⟨rfl, rfl⟩
    | succ j =>
      simp at h
      rcases outs_at env np (i + 1) j x h with ⟨h1, h2⟩ | h2
      · exact .inl ⟨by simpa using h1, by rw [h2]; congr 1; omega⟩
      · exact .inr h2

theorem call_of {P : Program} {T : Tys} (hT : TyOK P T) (hm : P.follows .mixedOrders = true) {f : FuncId} {fn : Func} {c : Code} (hf : P.funcs[f]? = some fn) (hname : (fn.name == "runtime.NumGoroutine") = false) (hb : fn.body = some c)
    {np : List Bool} (hd : codeDst (canSlot fn.ntmps np) c = true) (hr hl : Hints) {args : List V} {H : List (Nat × AObj)} {outs : List V} {res : V} {H' : List (Nat × AObj)}
    (hlen : args.length ≤ fn.ntmps)
    (hv : cVC T P hr hl c (start args H) (retK fn.results.toList np T outs res H')) : CallOK P f args H outs res H' := by
  refine ⟨⟨fn, hf, hname, by rw [hb]; rfl⟩, fun w vs lam ok hk hal hargs => ?_⟩
  refine calls_of_wp hf hb ?_
  let U : Nat → Prop := fun b => ∃ n, hget H n ≠ none ∧ lam n = some b
  let a0 : Act := { tmps := ⟨vs⟩ ++ Array.replicate (fn.ntmps - (⟨vs⟩ : Array Value).size) undef, defers := [] }
  let N : Slots := { size := fn.ntmps, pin := fun t => np.getD t false, val := fun t => a0.tmps.getD t undef }
  have hcan : ∀ d, canSlot fn.ntmps np d = true → N.can d := fun d h => by
    simp only [canSlot, Bool.and_eq_true, Nat.blt_eq, Bool.not_eq_true'] at h
    exact h
  have hsz : vs.length ≤ fn.ntmps := by omega
  have ha0 : ∀ t, a0.tmps.getD t undef = (vs[t]?).getD undef := fun t => by
    show ((⟨vs⟩ : Array Value) ++ Array.replicate (fn.ntmps - vs.length) undef).getD t undef = _
    simp only [Array.getD_eq_getD_getElem?]
    rw [Array.getElem?_append]
    by_cases ht : t < vs.length
    · simp [ht]
    · simp only [List.size_toArray, ht, if_false]
      rw [List.getElem?_eq_none (by omega), Array.getElem?_replicate]
      split <;> rfl
  have hE : ∀ t, eget (start args H).env t = (args[t]?).getD .dead := fun t => by
    have := eget_start args 0 t
    rwa [Nat.zero_add] at this
  have hH : uget (start args H).H = hget H := uget_map H
  have hs : SRs ok U w N (start args H) a0 w := by
    refine ⟨ok, lam, ?_, fun t => ?_, fun t => VGood.all _, ?_, fun t _ => rfl, rfl, Fr.refl _ _⟩
    · rw [hH]
      exact ⟨hk, fun n o _ => by cases o with | box c => exact fun v _ => VGood.all v | arr => trivial, fun _ _ => trivial, fun b hb => .inl hb, fun n b hn hb => .inl ⟨n, hn, hb⟩, Nat.le_refl _⟩
    · rw [hH, hE, ha0]
      cases hx : args[t]? with
      | none => exact .dead
      | some x =>
        have ht : t < vs.length := by have := (List.getElem?_eq_some_iff.1 hx).1; omega
        have hv : vs[t]? = some vs[t] := List.getElem?_eq_getElem ht
        rw [hv]
        exact hargs t x _ hx hv
    · show ((⟨vs⟩ : Array Value) ++ Array.replicate (fn.ntmps - vs.length) undef).size = fn.ntmps
      simp; omega
  refine code_sound hT hcan hm hr hl c hd (fun e s a w' h hK => ?_) hs hv
  have fin : (resK T s fn.results.toList fun vs => leaves np s (one vs) = (outs, res, H')) → a.defers = [] ∧ ∃ v, (results fn a.tmps).run P w' = .ok v w' ∧ ∃ v' lam' ok', Ending.returned v = .returned v' ∧ Fr U w w' ∧ HOK w' ok' lam' (hget H') ∧
      VRel w' ok' lam' (hget H') res v' ∧ (∀ (i : Nat) x v, outs[i]? = some x → vs[i]? = some v → VRel w' ok' lam' (hget H') x v) ∧
      (∀ b, ok' b → ok b ∨ (∃ n, hget H n ≠ none ∧ lam n = some b) ∨ w.heap.size ≤ b) ∧
      (∀ n b, hget H' n ≠ none → lam' n = some b → (∃ n', hget H n' ≠ none ∧ lam n' = some b) ∨ w.heap.size ≤ b) := by
    intro hlv
    obtain ⟨ok1, lam1, h⟩ := h
    obtain ⟨rvs, cvs, hlv, hrun, hrel⟩ := res_sound hT h (f := fun | .tmp t => pure (a.tmps.getD t undef) | .cell b t => do loadVar t (← asAddr (a.tmps.getD b undef))) (fun _ => rfl) (fun _ _ => rfl) hlv
    simp only [leaves, Prod.mk.injEq] at hlv
    obtain ⟨hl1, hl2, hl3⟩ := hlv
    have hnd := order_nodup (uget s.H) (outsV s.env 0 np ++ [one rvs])
    generalize order (uget s.H) (outsV s.env 0 np ++ [one rvs]) = o at hl1 hl2 hl3 hnd
    have hc := h.ctx.idx hnd (q := fun _ => True) (fun _ _ => trivial)
    have hren := ren_idx (uget s.H) lam1 o
    rw [hl3] at hc hren
    refine ⟨h.defers, _, results_run (f := fun | .tmp t => pure (a.tmps.getD t undef) | .cell b t => do loadVar t (← asAddr (a.tmps.getD b undef))) (fun _ => rfl) (fun _ _ => rfl) hrun, _, _, ok1, rfl, ⟨h.fr.os, h.fr.tape, h.fr.output, h.fr.size, fun k hk hn => h.fr.block k hk (by rintro (h1 | h1); exact hn h1; omega), h.fr.sized⟩, hc.hok, ?_, fun i x v hx hv => ?_, h.ctx.okb, hc.ownb⟩
    · rw [← hl2]
      refine renV_rel hren ?_
      exact one_rel hrel
    · rw [← hl1, List.getElem?_map] at hx
      cases hx' : (outsV s.env 0 np)[i]? with
      | none => rw [hx'] at hx; simp at hx
      | some y =>
        rw [hx'] at hx; simp at hx; subst hx
        rcases outs_at s.env np 0 i y hx' with ⟨h1, h2⟩ | h2
        · rw [Nat.zero_add] at h2
          subst h2
          refine renV_rel hren ?_
          have hpin := h.pin i (by show np.getD i false = true; rw [List.getD_eq_getElem?_getD, h1]; rfl)
          have := h.rel i
          rw [hpin] at this
          have he : N.val i = v := by
            show a0.tmps.getD i undef = v
            rw [ha0, hv]; rfl
          rwa [he] at this
        · subst h2; exact .dead
  cases e with
  | normal => exact fin hK
  | ret => exact fin hK
  | _ => exact hK.elim

end Go.Rx

namespace Go.Rx
open Go Go.RowKit

/-! ### a table of types, asked -/

def kindB : TypeDesc → TK → Bool
  | .struct fs, .struct l => fs.toList.map (fun f => (f.offset, f.type)) == l
  | .slice e, .slice e' => e == e'
  | .int k, .int k' => decide (k = k')
  | .string, .str => true
  | .bool, .bool => true
  | .pointer _, .ptr => true
  | _, _ => false

def zB : Z → Value → Bool
  | .d (.int k n), .int k' n' => decide (k = k') && decide (n = n')
  | .d (.bool b), .bool b' => b == b'
  | .d (.str []), .string ⟨⟨[]⟩⟩ => true
  | .d .nilp, .pointer none => true
  | .nils _, .slice none 0 0 => true
  | _, _ => false

def zsB : List Z → List Value → Bool
  | [], [] => true
  | z :: zs, v :: vs => zB z v && zsB zs vs
  | _, _ => false

def structB (P : Program) (t : Nat) : TypeDesc → Bool
  | .struct fs => !P.stoodInHeld t && !P.eqGuardType P.depth t && fs.toList.all fun f => f.name != "_"
  | _ => true

def tyB (P : Program) (t : Nat) (i : TI) : Bool :=
  match P.info? t, P.underlying t with
  | some info, some d => info.size == i.size && info.bytes == i.bytes && kindB d i.kind && structB P t d &&
      match info.zero with
      | some z => zsB i.zero z.cells.toList
      | none => false
  | _, _ => false

theorem kindB_ok {d : TypeDesc} {k : TK} (h : kindB d k = true) : kindOK d k := by
  cases d <;> cases k <;> simp_all [kindB, kindOK]

theorem zB_rel {z : Z} {v : Value} (h : zB z v = true) : Z.rel z v ∧ ∀ y, z = .d y → y.one = true := by
  unfold zB at h
  split at h
  · simp at h; obtain ⟨rfl, rfl⟩ := h; exact ⟨fun w ok => .int _ _, fun y hy => by cases hy; rfl⟩
  · simp at h; subst h; exact ⟨fun w ok => .bool _, fun y hy => by cases hy; rfl⟩
  · exact ⟨fun w ok => .str [] (by simp [LEN]), fun y hy => by cases hy; rfl⟩
  · exact ⟨fun w ok => .nilp, fun y hy => by cases hy; rfl⟩
  · exact ⟨rfl, fun y hy => by cases hy⟩
  · cases h

theorem zsB_rel : ∀ {zs : List Z} {vs : List Value}, zsB zs vs = true → Rel2 Z.rel zs vs ∧ ∀ x ∈ zs, ∀ y, x = .d y → y.one = true
  | [], [], _ => ⟨Rel2.nil _, fun x hx => by cases hx⟩
  | z :: zs, v :: vs, h => by
    simp only [zsB, Bool.and_eq_true] at h
    obtain ⟨h1, h2⟩ := zB_rel h.1
    obtain ⟨h3, h4⟩ := zsB_rel h.2
    refine ⟨⟨by simp [h3.1], fun i x y hx hy => ?_⟩, fun x hx => ?_⟩
    · cases i with
      | zero => simp at hx hy; subst hx; subst hy; exact h1
      | succ i => exact h3.2 i x y (by simpa using hx) (by simpa using hy)
    · rcases List.mem_cons.1 hx with rfl | hx
      · exact h2
      · exact h4 x hx
  | [], _ :: _, h => by cases h
  | _ :: _, [], h => by cases h

theorem tyB_at {P : Program} {t : Nat} {i : TI} (h : tyB P t i = true) : ∃ info d z, TyAt P t i info d z := by
  unfold tyB at h
  split at h
  · rename_i info d hi hu
    simp only [Bool.and_eq_true, beq_iff_eq] at h
    obtain ⟨⟨⟨⟨h1, h2⟩, h3⟩, h4⟩, h5⟩ := h
    split at h5
    · rename_i z hz
      obtain ⟨h6, h7⟩ := zsB_rel h5
      refine ⟨info, d, z, hi, h1, h2, hu, kindB_ok h3, hz, h6, h7, fun fs hfs => ?_⟩
      subst hfs
      simp only [structB, Bool.and_eq_true, Bool.not_eq_true'] at h4
      refine ⟨h4.1.1, h4.1.2, fun f hf => ?_⟩
      have := List.all_eq_true.1 h4.2 f hf
      simpa using this
    · cases h5
  · cases h

theorem tyOK_of {P : Program} {T : Tys} (h : ∀ t i, T t = some i → tyB P t i = true) : TyOK P T := fun t i ht => tyB_at (h t i ht)

end Go.Rx

namespace Go.Rx
open Go Go.RowKit

theorem fr_region {id : Nat} {ops : Array Oper} {d : Bool} : firstRegion (.region id ops d) = id := rfl
theorem fr_seq_region {id : Nat} {ops : Array Oper} {d : Bool} {b : Code} : firstRegion (.seq (.region id ops d) b) = id := rfl
theorem fr_seq_skip {b : Code} : firstRegion (.seq .skip b) = firstRegion b := rfl
theorem fr_seq_label {l : Nat} {b : Code} : firstRegion (.seq (.label l) b) = firstRegion b := rfl
theorem fr_seq_block {i : Nat} {a b : Code} : firstRegion (.seq (.block i a) b) = firstRegion a := rfl
theorem fr_seq_loop {a b : Code} : firstRegion (.seq (.loop a) b) = firstRegion a := rfl
theorem fr_seq_seq {a b c : Code} : firstRegion (.seq (.seq a b) c) = firstRegion (.seq a b) := rfl
theorem fr_block {i : Nat} {a : Code} : firstRegion (.block i a) = firstRegion a := rfl
theorem fr_loop {a : Code} : firstRegion (.loop a) = firstRegion a := rfl
theorem toNat_cast (n : Nat) : ((n : Int)).toNat = n := rfl
theorem nat_nonneg (n : Nat) : (0 ≤ (n : Int)) = True := by simp
def boxC1 (tb k : Nat) : V → List Z → V
  | .nils, .nils _ :: _ => .own (tb + 1 + k) 0 0
  | v, _ => v
def boxU1 (tb k : Nat) : V → List Z → Upd → Upd
  | .nils, .nils m :: _, r => (tb + 1 + k, some (.arr m [])) :: r
  | _, _, r => r
def mkBoxC (tb : Nat) : Nat → List V → List Z → List V
  | _, [], _ => []
  | k, v :: vs, zs => boxC1 tb k v zs :: mkBoxC tb (k + 1) vs (zs.drop 1)
def mkBoxU (tb : Nat) : Nat → List V → List Z → Upd
  | _, [], _ => []
  | k, v :: vs, zs => boxU1 tb k v zs (mkBoxU tb (k + 1) vs (zs.drop 1))
theorem mkBox_eq (tb : Nat) : ∀ (vs : List V) (k : Nat) (zs : List Z), mkBox tb k vs zs = (mkBoxC tb k vs zs, mkBoxU tb k vs zs)
  | [], _, _ => rfl
  | v :: vs, k, zs => by
    simp only [mkBox, mkBoxC, mkBoxU, mkBox_eq tb vs (k + 1) (zs.drop 1)]
    cases v <;> first | rfl | (cases zs with
      | nil => rfl
      | cons z zs => cases z <;> rfl)
theorem mkBox_1 {tb k : Nat} {vs : List V} {zs : List Z} : (mkBox tb k vs zs).1 = mkBoxC tb k vs zs := by rw [mkBox_eq]
theorem mkBox_2 {tb k : Nat} {vs : List V} {zs : List Z} : (mkBox tb k vs zs).2 = mkBoxU tb k vs zs := by rw [mkBox_eq]
attribute [go_sem ↓] mkBox_1 mkBox_2
theorem boxC1_d {tb k : Nat} {x : D} {zs : List Z} : boxC1 tb k (.d x) zs = .d x := rfl
theorem boxC1_own {tb k n o l : Nat} {zs : List Z} : boxC1 tb k (.own n o l) zs = .own n o l := rfl
theorem boxC1_ref {tb k n o : Nat} {zs : List Z} : boxC1 tb k (.ref n o) zs = .ref n o := rfl
theorem boxC1_el {tb k n i j : Nat} {zs : List Z} : boxC1 tb k (.el n i j) zs = .el n i j := rfl
theorem boxC1_nils {tb k m : Nat} {zs : List Z} : boxC1 tb k .nils (.nils m :: zs) = .own (tb + 1 + k) 0 0 := rfl
theorem boxU1_d {tb k : Nat} {x : D} {zs : List Z} {r : Upd} : boxU1 tb k (.d x) zs r = r := rfl
theorem boxU1_own {tb k n o l : Nat} {zs : List Z} {r : Upd} : boxU1 tb k (.own n o l) zs r = r := rfl
theorem boxU1_ref {tb k n o : Nat} {zs : List Z} {r : Upd} : boxU1 tb k (.ref n o) zs r = r := rfl
theorem boxU1_el {tb k n i j : Nat} {zs : List Z} {r : Upd} : boxU1 tb k (.el n i j) zs r = r := rfl
theorem boxU1_nils {tb k m : Nat} {zs : List Z} {r : Upd} : boxU1 tb k .nils (.nils m :: zs) r = (tb + 1 + k, some (.arr m [])) :: r := rfl
attribute [go_sem] boxC1_d boxC1_own boxC1_ref boxC1_el boxC1_nils boxU1_d boxU1_own boxU1_ref boxU1_el boxU1_nils mkBoxC.eq_1 mkBoxC.eq_2 mkBoxU.eq_1 mkBoxU.eq_2
theorem ble_dec (m n : Nat) : Nat.ble m n = decide (m ≤ n) := by
  cases h : Nat.ble m n
  · exact (decide_eq_false fun e => by rw [Nat.ble_eq_true_of_le e] at h; cases h).symm
  · exact (decide_eq_true (Nat.le_of_ble_eq_true h)).symm
attribute [go_sem] Bool.not_true Bool.not_false Bool.not_not ble_dec toNat_cast nat_nonneg eq_self
attribute [go_sem ↓] fr_region fr_seq_region fr_seq_skip fr_seq_label fr_seq_block fr_seq_loop fr_seq_seq fr_block fr_loop

attribute [go_sem]
  seqVC.eq_1 seqVC.eq_2 drawVC.eq_1 drawVC.eq_2 prep.eq_1 cap.eq_1 ev.eq_1 ev.eq_2 ev.eq_3 ev.eq_4 eget.eq_1 eget.eq_2 uget.eq_1 uget.eq_2 hget.eq_1 hget.eq_2 
  V.cells.eq_1 V.cells.eq_2 V.cells.eq_3 V.cells.eq_4 V.cells.eq_5 V.cells.eq_6 moveVC.eq_1 moveVC.eq_2 moveNil.eq_1 moveNil.eq_2 loadVC.eq_1 loadVC.eq_2 
  loadVC.eq_3 loadVC.eq_4 boxVC.eq_1 allocVC.eq_1 onSome.eq_1 onSome.eq_2 onBox.eq_1 onBox.eq_2 onArr.eq_1 onArr.eq_2 onObj.eq_1 onObj.eq_2 onInt.eq_1 
  onInt.eq_2 faVC.eq_1 faVC.eq_2 faVC.eq_3 faVC.eq_4 fieldOff.eq_1 binVC.eq_1 binVC.eq_2 binVC.eq_3 binVC.eq_4 binVC.eq_5 binVC.eq_6 strVC.eq_1 strVC.eq_2 
  strVC.eq_3 strVC.eq_4 strVC.eq_5 strVC.eq_6 strVC.eq_7 strVC.eq_8 eqlVC.eq_1 eqlVC.eq_2 eqlVC.eq_3 intVC.eq_1 intVC.eq_2 intVC.eq_3 intVC.eq_4 intVC.eq_5 
  intVC.eq_6 intVC.eq_7 intVC.eq_8 intVC.eq_9 intVC.eq_10 intVC.eq_11 intVC.eq_12 intVC.eq_13 intVC.eq_14 intVC.eq_15 intVC.eq_16 intVC.eq_17 
  zeroV.eq_1 zeroV.eq_2 zeroV.eq_3 St.app.eq_1 St.app.eq_2 order.eq_1 objs.eq_1 objs.eq_2 idx.eq_1 idx.eq_2 dd.eq_1 dd.eq_2 refV.eq_1 
  refV.eq_2 refA.eq_1 refA.eq_2 refA.eq_3 refC.eq_1 refC.eq_2 refC.eq_3 refC.eq_4 refO.eq_1 renV.eq_1 renV.eq_2 renA.eq_1 renA.eq_2 renA.eq_3 renC.eq_1 
  renC.eq_2 renC.eq_3 renC.eq_4 renC.eq_5 renC.eq_6 renO.eq_1 renO.eq_2 loadOk.eq_1 sizeOfT.eq_1 isStruct.eq_1 loadC.eq_1 V.one.eq_1 V.one.eq_2 V.one.eq_3 
  V.one.eq_4 V.one.eq_5 D.one.eq_1 D.one.eq_2 D.one.eq_3 ofVal.eq_1 ofVal.eq_2 ofVal.eq_3 ofCell.eq_1 ofCell.eq_2 ofCell.eq_3 ofCell.eq_4 ofCell.eq_5 
  ofCell.eq_6 thenK.eq_1 thenK.eq_2 condVC.eq_1 condVC.eq_2 blockK.eq_1 blockK.eq_2 storeVC.eq_1 storeTo.eq_1 storeTo.eq_2 storeTo.eq_3 setAt.eq_1 lenVC.eq_1 
  lenVC.eq_2 lenVC.eq_3 lenVC.eq_4 lenVC.eq_5 isStr.eq_1 isStr.eq_2 isSl.eq_1 isSl.eq_2 builtinVC.eq_1 builtinVC.eq_2 builtinVC.eq_3 builtinVC.eq_4 
  builtinVC.eq_5 builtinVC.eq_6 builtinVC.eq_7 builtinVC.eq_8 indexVC.eq_1 indexVC.eq_2 indexVC.eq_3 elemT.eq_1 known.eq_1 unVC.eq_1 unVC.eq_2 unVC.eq_3 
  unVC.eq_4 unVC.eq_5 pickVC.eq_1 pickVC.eq_2 nilVC.eq_1 nilVC.eq_2 nilVC.eq_3 nilVC.eq_4 nilVC.eq_5 nilVC.eq_6 isShift.eq_1 isShift.eq_2 isShift.eq_3 
  appendVC.eq_1 appTo.eq_1 appTo.eq_2 appTo.eq_3 fits.eq_1 srcTy.eq_1 srcTy.eq_2 slOf.eq_1 slOf.eq_2 toD.eq_1 toD.eq_2 toD.eq_3 cD.eq_1 cD.eq_2 cD.eq_3 cD.eq_4 
  cDs.eq_1 cDs.eq_2 toP.eq_1 toP.eq_2 toPs.eq_1 toPs.eq_2 makeVC.eq_1 makeVC.eq_2 zeroD.eq_1 zeroD.eq_2 zeroD.eq_3 sliceVC.eq_1 sliceVC.eq_2 sliceVC.eq_3 
  sliceVC.eq_4 sliceVC.eq_5 bound.eq_1 bound.eq_2 bound.eq_3 convVC.eq_1 convVC.eq_2 convVC.eq_3 convVC.eq_4 convVC.eq_5 convK.eq_1 convK.eq_2 convK.eq_3 
  convK.eq_4 convK.eq_5 isU8.eq_1 isU8.eq_2 extVC.eq_1 extVC.eq_2 strIx.eq_1 strIx.eq_2 fieldVC.eq_1 V.aggc.eq_1 V.aggc.eq_2 V.aggc.eq_3 buildC.eq_1 buildC.eq_2 
  structOf.eq_1 structOf.eq_2 litVC.eq_1 litVC.eq_2 litParts.eq_1 litParts.eq_2 litPart.eq_1 litPart.eq_2 kindT.eq_1 eqT.eq_1 eqT.eq_2 eqT.eq_3 eqT.eq_4 
  eqO.eq_1 eqO.eq_2 andO.eq_1 andO.eq_2 eqFs.eq_1 eqFs.eq_2 scal.eq_1 scal.eq_2 scal.eq_3 scalL.eq_1 scalL.eq_2 scalL.eq_3 aggVC.eq_1 aggVC.eq_2 ptrVC.eq_1 
  ptrVC.eq_2 minMax.eq_1 minMax.eq_2 minMax.eq_3 guardV.eq_1 guardT.eq_1 tmpsOf.eq_1 rdN.eq_1 retK.eq_1 retK.eq_2 retK.eq_3 resK.eq_1 resK.eq_2 resK.eq_3 
  one.eq_1 one.eq_2 leaves.eq_1 outsV.eq_1 outsV.eq_2 start.eq_1 startE.eq_1 startE.eq_2 calleeVC.eq_1 calleeVC.eq_2 calleeVC.eq_3 nilOf.eq_1 nilOf.eq_2 
  nilOf.eq_3 nilOf.eq_4 ndBin.eq_1 ndBin.eq_2 ndBin.eq_3 ndBin.eq_4 onNd.eq_1 onNd.eq_2 capVC.eq_1 capVC.eq_2 capVC.eq_3 capVC.eq_4 slTy.eq_1 clearVC.eq_1 
  clearVC.eq_2 keepVC.eq_1 isIntT.eq_1 isIntT.eq_2 appZ.eq_1 appZ.eq_2 roundK.eq_1 roundK.eq_2 V.isC.eq_1 V.isC.eq_2 V.isC.eq_3 V.isC.eq_4 byteCell.eq_1 
  List.drop.eq_1 List.drop.eq_2 List.drop.eq_3 List.take.eq_1 List.take.eq_2 List.take.eq_3 
  List.map_cons List.map_nil cond_true cond_false List.reverse_cons List.reverse_nil List.nil_append List.cons_append List.append_nil
  List.zip_cons_cons List.zip_nil_left List.zip_nil_right List.flatMap_cons List.flatMap_nil Nat.reduceBEq List.contains_cons List.contains_nil Bool.or_false Bool.or_true Bool.false_or Option.map_some Option.map_none
  List.length_cons List.length_nil Nat.reduceAdd Nat.reduceSub Nat.reduceLeDiff Nat.reduceMul List.all_cons List.all_nil Bool.and_true Bool.and_self true_and and_true Nat.reduceLT Nat.lt_add_one Nat.zero_add List.getElem?_cons_zero List.getElem?_cons_succ Bool.true_or beq_self_eq_true
  decide_true decide_false or_true true_or Option.bind_some List.head?_cons Option.bind_none List.toList_toArray Option.getD_some Option.getD_none List.filterMap_cons List.filterMap_nil

end Go.Rx

namespace Go.Rx
open Go Go.RowKit
@[simp] theorem flatA_nil {vs : List V} : flatA [] vs = vs := rfl
@[simp] theorem grpA_nil {vs fl : List V} : grpA [] vs fl = fl := rfl

/-! ### calls that are handed data alone -/

def toDs (h : Heap) : List V → Option (List D × List Nat)
  | [] => some ([], [])
  | v :: vs => match toD h v, toDs h vs with
    | some (x, l), some (xs, ls) => some (x :: xs, l ++ ls)
    | _, _ => none

theorem gather_of_toDs {h : Heap} : ∀ {vs : List V} {xs : List D} {ls : List Nat}, toDs h vs = some (xs, ls) → gather h [] vs = some (xs.map Arg.dat, [], ls)
  | [], xs, ls, e => by simp [toDs] at e; obtain ⟨rfl, rfl⟩ := e; rfl
  | v :: vs, xs, ls, e => by
    simp only [toDs] at e
    split at e
    · rename_i x l xs' ls' h1 h2
      simp at e; obtain ⟨rfl, rfl⟩ := e
      have ih := gather_of_toDs h2
      have hd : gatherD h v (xs'.map Arg.dat) [] ls' = some (.dat x :: xs'.map Arg.dat, [], l ++ ls') := by unfold gatherD; rw [h1]
      simp only [gather, List.drop_nil, ih, List.headD_nil, List.map_cons]
      cases v with
      | ref n off => simp [toD, cD] at h1
      | _ => exact hd
    · cases e

theorem names_dat : ∀ xs : List D, (xs.map Arg.dat).filterMap Arg.name? = []
  | [] => rfl
  | x :: xs => by simp only [List.map_cons, List.filterMap_cons, Arg.name?]; exact names_dat xs

theorem ownFit_dat {h : Heap} {H' : List (Nat × AObj)} : ∀ xs : List D, ownFit h H' (xs.map Arg.dat) (xs.map fun _ => V.dead)
  | [] => trivial
  | x :: xs => ownFit_dat xs

theorem outsFit_dat {H' : List (Nat × AObj)} : ∀ xs : List D, outsFit H' (xs.map Arg.dat) (xs.map fun _ => V.dead) = true
  | [] => rfl
  | x :: xs => by simp only [List.map_cons, outsFit]; exact outsFit_dat xs

theorem backTo_dat : ∀ (xs : List D) (j : Nat), backTo (xs.map Arg.dat) (xs.map fun _ => V.dead) j = none
  | [], j => rfl
  | x :: xs, j => by simp only [List.map_cons, backTo]; exact backTo_dat xs j

/-- Names of a result, in the caller. -/
def bk (tb : Nat) (H' : List (Nat × AObj)) (j : Nat) : Option Nat := bif hasKey H' j then some (tb + j) else none

theorem back_dat {tb : Nat} {H' : List (Nat × AObj)} (xs : List D) : back tb (xs.map Arg.dat) (xs.map fun _ => V.dead) H' = bk tb H' := by
  funext j; unfold back bk; rw [backTo_dat]; cases hasKey H' j <;> rfl

def updN (tb : Nat) (H0 : List (Nat × AObj)) : List (Nat × AObj) → Upd
  | [] => []
  | p :: l => ((bk tb H0 p.1).getD 0, some (renO (bk tb H0) p.2)) :: updN tb H0 l

theorem updN_eq {tb : Nat} {H0 : List (Nat × AObj)} : ∀ H : List (Nat × AObj), H.map (fun p => ((bk tb H0 p.1).getD 0, some (renO (bk tb H0) p.2))) = updN tb H0 H
  | [] => rfl
  | p :: l => by simp only [List.map_cons, updN, updN_eq l]

theorem flatO_one {n : Nat} {o : AObj} (h : FlatO o) : FlatH [(n, o)] := fun p hp => by simp at hp; subst hp; exact h

section
variable {P : Program} {h : Heap} {tb : Nat} {f : FuncId} {args : List V} {K : OK} {xs : List D} {ls : List Nat} {res : V} {H' : List (Nat × AObj)}

/-- A call that is handed data, none of it ours alone; or whose answer does not point into it. -/
theorem call_free (hg : toDs h args = some (xs, ls)) (hc : CallOK P f (xs.map .d) [] (xs.map fun _ => .dead) res H') (hs : smallKeys H' = true)
    (hf : ls = [] ∨ (FlatV res ∧ FlatH H')) (hk : K (renV (bk tb H') res) (updN tb H' H')) : callVC P h tb f args K := by
  refine ⟨[], [], xs.map .dat, [], ls, xs.map fun _ => .dead, res, H', gather_of_toDs hg, by rw [names_dat]; simp [nodup], ?_, ?_, ownFit_dat xs, .inl ⟨hf, ?_⟩⟩
  · simpa [argV, objs, List.map_map, Function.comp_def] using hc
  · rw [outsFit_dat, hs]; rfl
  · rw [back_dat, updOf, back_dat, updN_eq]; simpa using hk

/-- A call whose answer may point into what it was handed: what was ours is spent. -/
theorem call_take (hg : toDs h args = some (xs, ls)) (hc : CallOK P f (xs.map .d) [] (xs.map fun _ => .dead) res H') (hs : smallKeys H' = true)
    (hk : K (renV (bk tb H') res) (ls.map (·, none) ++ updN tb H' H')) : callVC P h tb f args K := by
  refine ⟨[], [], xs.map .dat, [], ls, xs.map fun _ => .dead, res, H', gather_of_toDs hg, by rw [names_dat]; simp [nodup], ?_, ?_, ownFit_dat xs, .inr ?_⟩
  · simpa [argV, objs, List.map_map, Function.comp_def] using hc
  · rw [outsFit_dat, hs]; rfl
  · rw [back_dat, updOf, back_dat, updN_eq]; simpa using hk

/-- Where the first thing that is handed on is a box of ours, which owns nothing. -/
def bx (n tb : Nat) (H' : List (Nat × AObj)) (j : Nat) : Option Nat := bif 0 == j then some n else bk tb H' j
def updX (n tb : Nat) (H0 : List (Nat × AObj)) : List (Nat × AObj) → Upd
  | [] => []
  | p :: l => ((bx n tb H0 p.1).getD 0, some (renO (bx n tb H0) p.2)) :: updX n tb H0 l
theorem updX_eq {n tb : Nat} {H0 : List (Nat × AObj)} : ∀ H : List (Nat × AObj), H.map (fun p => ((bx n tb H0 p.1).getD 0, some (renO (bx n tb H0) p.2))) = updX n tb H0 H
  | [] => rfl
  | p :: l => by simp only [List.map_cons, updX, updX_eq l]

theorem call_box_ (gone : Bool) {n : Nat} {cells : List V} {rest : List V} (hn : h n = some (.box cells)) (hro : refO h n = [n]) (hro2 : renO (idx [n]) (.box cells) = .box cells) (hr : toDs h rest = some (xs, ls)) (hnl : ls.contains n = false)
    (hc : CallOK P f (.ref 0 0 :: xs.map .d) [(0, .box cells)] (.ref 0 0 :: xs.map fun _ => .dead) res H') (hb : isBox (hget H' 0) = true) (hs : smallKeys H' = true)
    (hf : gone = true ∨ ls = [] ∨ (FlatV res ∧ FlatH H')) (hk : K (renV (bx n tb H') res) ((bif gone then ls.map (·, none) else []) ++ (n, none) :: updX n tb H' H')) : callVC P h tb f (.ref n 0 :: rest) K := by
  have hidx : idx [n] n = some 0 := by simp [idx]
  have hbk : back tb (.box n :: xs.map Arg.dat) (.ref 0 0 :: xs.map fun _ => V.dead) H' = bx n tb H' := by
    funext j
    unfold back bx
    simp only [backTo]
    cases h0 : (0 : Nat) == j with
    | true => cases hasKey H' j <;> rfl
    | false => simp only [cond_false]; rw [backTo_dat]; unfold bk; cases hasKey H' j <;> rfl
  have hu : ∀ l, updOf tb (.box n :: xs.map Arg.dat) (.ref 0 0 :: xs.map fun _ => V.dead) l H' = l.map (·, none) ++ updX n tb H' H' := fun l => by rw [updOf, hbk, updX_eq]
  have hgat : gather h [] (.ref n 0 :: rest) = some (.box n :: xs.map .dat, [n], ls) := by
    simp only [gather, List.drop_nil, gather_of_toDs hr, List.headD_nil, gather1, hn, hro]
    rfl
  have hcall : CallOK P f ((Arg.box n :: xs.map .dat).map (argV [n])) (objs h (idx [n]) 0 [n]) (.ref 0 0 :: xs.map fun _ => .dead) res H' := by
    have e1 : (xs.map Arg.dat).map (argV [n]) = xs.map .d := by rw [List.map_map]; rfl
    simp only [List.map_cons, e1, argV, renC, hidx, objs, hn, hro2]
    exact hc
  refine ⟨[], [], _, _, _, .ref 0 0 :: xs.map fun _ => .dead, res, H', hgat, ?_, hcall, ?_, ownFit_dat xs, ?_⟩
  · simp only [List.filterMap_cons, Arg.name?, names_dat, nodup, List.all_cons, List.all_nil, hnl]
    simp
  · simp only [outsFit, outsFit_dat, hs, hb]; rfl
  · cases gone with
    | true => exact .inr (by rw [hbk, hu]; simpa using hk)
    | false =>
      refine .inl ⟨hf.resolve_left (by simp), ?_⟩
      rw [hbk, hu]; simpa using hk

/-- Where the first thing that is handed on is nil. -/
theorem call_nils {rest : List V} (hr : toDs h rest = some (xs, ls)) (hc : CallOK P f (.nils :: xs.map .d) [] (.dead :: xs.map fun _ => .dead) res H') (hs : smallKeys H' = true)
    (hf : ls = [] ∨ (FlatV res ∧ FlatH H')) (hk : K (renV (bk tb H') res) (updN tb H' H')) : callVC P h tb f (.nils :: rest) K := by
  have hb : back tb (.nils :: xs.map Arg.dat) (.dead :: xs.map fun _ => V.dead) H' = bk tb H' := by
    funext j; unfold back bk; simp only [backTo]; rw [backTo_dat]; cases hasKey H' j <;> rfl
  refine ⟨[], [true], .nils :: xs.map .dat, [], ls, .dead :: xs.map fun _ => .dead, res, H', ?_, ?_, ?_, ?_, ownFit_dat xs, .inl ⟨hf, ?_⟩⟩
  · simp only [flatA_nil, gather, List.drop_succ_cons, List.drop_nil, gather_of_toDs hr, List.headD_cons, gather1]
  · simp only [List.filterMap_cons, Arg.name?, names_dat]; simp [nodup]
  · have e1 : (xs.map Arg.dat).map (argV []) = xs.map .d := by rw [List.map_map]; rfl
    simp only [grpA_nil, List.map_cons, e1, argV, objs]
    exact hc
  · simp only [outsFit, outsFit_dat, hs]; rfl
  · rw [updOf, hb, updN_eq]; simpa using hk

/-- Where the first thing that is handed on is an array of ours. -/
theorem back_own {n off len k off' len' : Nat} (xs : List D) : backTo (.own n off len :: xs.map Arg.dat) (.own k off' len' :: xs.map fun _ => V.dead) = fun j => bif k == j then some n else none := by
  funext j; simp only [backTo]; rw [backTo_dat]

theorem gather_own {n off len m : Nat} {ys : List (List D)} {rest : List V} (hn : h n = some (.arr m ys)) (hr : toDs h rest = some (xs, ls)) :
    gather h [true] (.own n off len :: rest) = some (.own n off len :: xs.map .dat, [n], ls) := by
  simp only [gather, List.drop_succ_cons, List.drop_nil, gather_of_toDs hr, List.headD_cons, gather1, hn]

theorem call_own {n off len m : Nat} {ys ys' : List (List D)} {rest : List V} {r : V} (hn : h n = some (.arr m ys)) (hr : toDs h rest = some (xs, ls)) (hnl : ls.contains n = false)
    (hc : CallOK P f (.own 0 off len :: xs.map .d) [(0, .arr m ys)] (.own 0 off len :: xs.map fun _ => .dead) r [(0, .arr m ys')]) (hl : ys.length = ys'.length) (hfl : FlatV r) (hfo : FlatO (.arr m ys'))
    (hk : K (renV (fun j => bif 0 == j then some n else none) r) [(n, none), (n, some (.arr m ys'))]) : callVC P h tb f (.own n off len :: rest) K := by
  have hidx : idx [n] n = some 0 := by simp [idx]
  have hb : back tb (.own n off len :: xs.map Arg.dat) (.own 0 off len :: xs.map fun _ => V.dead) [(0, .arr m ys')] = fun j => bif 0 == j then some n else none := by
    funext j
    unfold back
    rw [back_own]
    cases j with
    | zero => rfl
    | succ j => rfl
  refine ⟨[], [true], _, _, _, .own 0 off len :: xs.map fun _ => .dead, r, [(0, .arr m ys')], gather_own hn hr, ?_, ?_, ?_, ?_, .inl ⟨.inr ⟨hfl, flatO_one hfo⟩, ?_⟩⟩
  · simp only [List.filterMap_cons, Arg.name?, names_dat, nodup, List.all_cons, List.all_nil, hnl]
    simp
  · have e1 : (xs.map Arg.dat).map (argV [n]) = xs.map .d := by rw [List.map_map]; rfl
    simp only [List.map_cons, e1, argV, renC, hidx, objs, hn, renO]
    exact hc
  · simp only [outsFit, hget, isArr, outsFit_dat, smallKeys]
    simp [nodup]
  · refine ⟨?_, ownFit_dat xs⟩
    simp [sameLen, hn, hget, hl]
  · rw [updOf, hb]
    simpa [renO] using hk
end


theorem toDs_nil {h : Heap} : toDs h [] = some ([], []) := rfl
theorem toDs_d {h : Heap} {x : D} {vs : List V} {xs : List D} {ls : List Nat} (e : toDs h vs = some (xs, ls)) : toDs h (.d x :: vs) = some (x :: xs, ls) := by
  simp [toDs, toD, cD, e]
theorem toDs_nils {h : Heap} {vs : List V} {xs : List D} {ls : List Nat} (e : toDs h vs = some (xs, ls)) : toDs h (.nils :: vs) = some (.sl [] :: xs, ls) := by
  simp [toDs, toD, cD, e]
theorem toDs_own {h : Heap} {n off len m : Nat} {ys : List (List D)} {vs : List V} {xs : List D} {ls : List Nat} (ho : h n = some (.arr m ys)) (e : toDs h vs = some (xs, ls)) :
    toDs h (.own n off len :: vs) = some (.sl ((ys.drop off).take len) :: xs, n :: ls) := by
  simp [toDs, toD, cD, e, ho]
theorem toDs_own' {h : Heap} {n m : Nat} {ys : List (List D)} {vs : List V} {xs : List D} {ls : List Nat} (ho : h n = some (.arr m ys)) (e : toDs h vs = some (xs, ls)) :
    toDs h (.own n 0 ys.length :: vs) = some (.sl ys :: xs, n :: ls) := by
  simp [toDs, toD, cD, e, ho]
theorem toDs_agg {h : Heap} {cs : List V} {ds : List D} {l : List Nat} {vs : List V} {xs : List D} {ls : List Nat} (ho : cDs h cs = some (ds, l)) (e : toDs h vs = some (xs, ls)) :
    toDs h (.agg cs :: vs) = some (.agg ds :: xs, l ++ ls) := by
  simp [toDs, toD, e, ho]

/-! a result that is not written to any more is plain data -/
def freezeV (h : Heap) : V → Option (V × List Nat)
  | .tup vs => match toDs h vs with
    | some (xs, ls) => some (.tup (xs.map .d), ls)
    | none => none
  | v => match toD h v with
    | some (x, ls) => some (.d x, ls)
    | none => none

section
variable {w : World} {ok : Nat → Prop} {lam : Nat → Option Nat} {h : Heap}

theorem toDs_sound (hk : HOK w ok lam h) : ∀ {vs : List V} {ws : List Value} {xs : List D} {ls : List Nat}, Rel2 (VRel w ok lam h) vs ws → toDs h vs = some (xs, ls) → Rel2 (DRel w (okB ok lam h ls)) xs ws
  | [], ws, xs, ls, hr, e => by
    simp [toDs] at e; obtain ⟨rfl, rfl⟩ := e
    rw [hr.nil_left]; exact Rel2.nil _
  | v :: vs, ws, xs, ls, hr, e => by
    obtain ⟨x, m, rfl, hv, hm⟩ := hr.uncons
    simp only [toDs] at e
    split at e
    · rename_i y l ys ls' h1 h2
      simp at e; obtain ⟨rfl, rfl⟩ := e
      exact Rel2.cons (DRel.mono (toD_sound hk hv h1) (fun _ _ => rfl) fun b hb => okB_mono hb (by simp; intro n hn; exact .inl hn))
        ((toDs_sound hk hm h2).mono fun _ _ _ hd => DRel.mono hd (fun _ _ => rfl) fun b hb => okB_mono hb (by simp; intro n hn; exact .inr hn))
    · cases e

theorem freezeV_sound (hk : HOK w ok lam h) {v v' : V} {x : Value} {ls : List Nat} (hv : VRel w ok lam h v x) (hf : freezeV h v = some (v', ls)) {lam' : Nat → Option Nat} {h' : Heap} : VRel w (okB ok lam h ls) lam' h' v' x := by
  have dat : ∀ v, VRel w ok lam h v x → (match toD h v with | some (x, ls) => some (V.d x, ls) | none => none) = some (v', ls) → VRel w (okB ok lam h ls) lam' h' v' x := fun v hv hf => by
    split at hf
    · rename_i y l hd
      simp at hf; obtain ⟨rfl, rfl⟩ := hf
      exact .d (toD_sound hk hv hd)
    · cases hf
  cases v with
  | tup vs =>
    simp only [freezeV] at hf
    split at hf
    · rename_i xs l hd
      simp at hf; obtain ⟨rfl, rfl⟩ := hf
      obtain ⟨cs, rfl, hr⟩ := hv.inv_tup
      have := toDs_sound hk hr hd
      refine VRel.mkTup (Rel2.map V.d this fun y z _ hd => .d hd)
    · cases hf
  | _ => exact dat _ hv hf
end

theorem freeze {P : Program} {f : FuncId} {args : List V} {H : List (Nat × AObj)} {outs : List V} {res res' : V} {H' : List (Nat × AObj)} {ls : List Nat}
    (hc : CallOK P f args H outs res H') (hf : freezeV (hget H') res = some (res', ls)) (ho : (outs.all fun x => match x with | .dead => true | _ => false) = true) : CallOK P f args H outs res' [] := by
  refine ⟨hc.1, fun w vs lam ok hk hl hv => (hc.2 w vs lam ok hk hl hv).mono ?_⟩
  rintro e w' ⟨v, lam', ok', rfl, hfr, hk', hres, _, hsub, hown⟩
  refine ⟨v, lam', okB ok' lam' (hget H') ls, rfl, hfr, ⟨fun n n' b h => absurd rfl h, fun n b h => absurd rfl h, fun n b h => absurd rfl h, fun b hb => ?_, fun n o h => by cases h⟩, freezeV_sound hk' hres hf, fun i x v hx _ => ?_, fun b hb => ?_, fun n b h => absurd rfl h⟩
  · rcases hb with hb | ⟨n, _, h1, h2⟩
    · exact hk'.oklt b hb
    · exact hk'.lt n b h1 h2
  · have := List.all_eq_true.1 ho x (List.mem_of_getElem? hx)
    cases x <;> first | exact .dead | simp at this
  · rcases hb with hb | ⟨n, _, h1, h2⟩
    · exact hsub b hb
    · rcases hown n b h1 h2 with h | h
      · exact .inr (.inl h)
      · exact .inr (.inr h)


theorem cDs_d {h : Heap} : ∀ ds : List D, cDs h (ds.map .d) = some (ds, [])
  | [] => rfl
  | d :: ds => by simp only [List.map_cons, cDs, cD, cDs_d ds]; rfl

theorem freeze_agg {P : Program} {f : FuncId} {args : List V} {H : List (Nat × AObj)} {outs : List V} {ds : List D} (hc : CallOK P f args H outs (.agg (ds.map .d)) []) (ho : (outs.all fun x => match x with | .dead => true | _ => false) = true) :
    CallOK P f args H outs (.d (.agg ds)) [] := freeze (ls := []) hc (by simp only [freezeV, toD, cDs_d]) ho

theorem freeze_own {P : Program} {f : FuncId} {args : List V} {H : List (Nat × AObj)} {outs : List V} {m n : Nat} {xs : List (List D)} (hc : CallOK P f args H outs (.own 0 0 n) [(0, .arr m xs)]) (hn : n = xs.length) (ho : (outs.all fun x => match x with | .dead => true | _ => false) = true) :
    CallOK P f args H outs (.d (.sl xs)) [] := freeze (ls := [0]) hc (by subst hn; simp [freezeV, toD, cD, hget]) ho

theorem flat_d {x : D} (h : Flat x) : FlatV (.d x) := .d h
theorem flatH_nil : FlatH [] := fun p hp => by cases hp
theorem flatH_cons {n : Nat} {o : AObj} {H : List (Nat × AObj)} (h1 : FlatO o) (h2 : FlatH H) : FlatH ((n, o) :: H) := fun p hp => by
  rcases List.mem_cons.1 hp with rfl | hp
  · exact h1
  · exact h2 p hp

theorem onSome_of {α : Type} {F : α → Prop} {o : Option α} {x : α} (h : o = some x) (hk : F x) : onSome o F := by subst h; exact hk
theorem commP_of {n : Nat} {all : List Oper} {fs : List Foot} (h : commOK all fs = true) : commP n all fs := h

/-! numbers -/
theorem wrap64 (n : Int) : IntKind.i64.wrap n = (n + 9223372036854775808) % 18446744073709551616 - 9223372036854775808 := by
  simp [IntKind.wrap, IntKind.bits, IntKind.signed]
  split <;> omega
theorem wrap_int {n : Int} (h1 : -9223372036854775808 ≤ n) (h2 : n < 9223372036854775808) : IntKind.i64.wrap n = n := by
  rw [wrap64]; omega
theorem wrap_succ {i : Nat} (h : i < LEN) : IntKind.i64.wrap ((i : Int) + 1) = ((i + 1 : Nat) : Int) := by
  rw [wrap_int] <;> simp only [LEN] at h <;> omega

/-- Of a choice the condition is worked out first, and the way not taken is left alone. -/
@[congr] theorem cond_lazy {α : Type} {c c' : Bool} {a b : α} (h : c = c') : cond c a b = cond c' a b := by rw [h]

end Go.Rx

namespace Go.Rx
open Go

/-! answers that point at nothing, told by a check -/
def flatD0 : D → Bool
  | .int _ _ | .bool _ | .str _ | .sl [] | .nilp | .und => true
  | _ => false
def flatDB : D → Bool
  | .agg cs => cs.all flatD0
  | x => flatD0 x
def flatV0 : V → Bool
  | .d x => flatDB x
  | .ref _ _ | .el _ _ _ | .own _ _ _ | .nils | .dead => true
  | _ => false
def flatV1 : V → Bool
  | .agg vs => vs.all flatV0
  | v => flatV0 v
def flatVB : V → Bool
  | .tup vs => vs.all flatV1
  | v => flatV1 v
theorem flatD0_of {x : D} (h : flatD0 x = true) : Flat x := by
  unfold flatD0 at h
  split at h <;> first | exact .int _ _ | exact .bool _ | exact .str _ | exact .nil | exact .nilp | exact .und | cases h
theorem flatDB_of {x : D} (h : flatDB x = true) : Flat x := by
  unfold flatDB at h
  split at h
  · exact .agg fun d hd => flatD0_of (List.all_eq_true.1 h d hd)
  · exact flatD0_of h
theorem flatV0_of {v : V} (h : flatV0 v = true) : FlatV v := by
  unfold flatV0 at h
  split at h <;> first | exact .d (flatDB_of h) | exact .ref _ _ | exact .el _ _ _ | exact .own _ _ _ | exact .nils | exact .dead | cases h
theorem flatV1_of {v : V} (h : flatV1 v = true) : FlatV v := by
  unfold flatV1 at h
  split at h
  · exact .agg fun d hd => flatV0_of (List.all_eq_true.1 h d hd)
  · exact flatV0_of h
theorem flat_of {v : V} (h : flatVB v = true) : FlatV v := by
  unfold flatVB at h
  split at h
  · exact .tup fun d hd => flatV1_of (List.all_eq_true.1 h d hd)
  · exact flatV1_of h
def flatOB : AObj → Bool
  | .box cells => cells.all flatV0
  | .arr _ [] => true
  | _ => false
def flatHB (H : List (Nat × AObj)) : Bool := H.all fun p => flatOB p.2
theorem flatHB_of {H : List (Nat × AObj)} (h : flatHB H = true) : FlatH H := fun p hp => by
  have := List.all_eq_true.1 h p hp
  unfold flatOB at this
  split at this
  · rename_i cells e; rw [e]; exact fun v hv => flatV0_of (List.all_eq_true.1 this v hv)
  · rename_i e; rw [e]; exact fun e he => by cases he
  · cases this

attribute [go_sem] bk.eq_1 bx.eq_1 updN.eq_1 updN.eq_2 updX.eq_1 updX.eq_2 hasKey.eq_1 hasKey.eq_2 back.eq_1 orElse.eq_1 orElse.eq_2 orElse.eq_3
  updOf.eq_1 backTo.eq_1 backTo.eq_2 backTo.eq_3 backTo.eq_4 objs.eq_1 objs.eq_2

/-! bits, by short names -/
def bAnd (k : IntKind) (a b : Int) : Int := k.wrap ((BitVec.ofInt k.bits a &&& BitVec.ofInt k.bits b).toNat : Nat)
def bOr (k : IntKind) (a b : Int) : Int := k.wrap ((BitVec.ofInt k.bits a ||| BitVec.ofInt k.bits b).toNat : Nat)
def bXor (k : IntKind) (a b : Int) : Int := k.wrap ((BitVec.ofInt k.bits a ^^^ BitVec.ofInt k.bits b).toNat : Nat)
def bShr (k : IntKind) (a b : Int) : Int := a.fdiv (2 ^ min b.toNat k.bits)
def bShl (k : IntKind) (a b : Int) : Int := k.wrap (a * 2 ^ min b.toNat k.bits)
theorem int_and {k : IntKind} {a b : Int} {K : OK} : intVC .and k a b K = K (.d (.int k (bAnd k a b))) [] := rfl
theorem int_or {k : IntKind} {a b : Int} {K : OK} : intVC .or k a b K = K (.d (.int k (bOr k a b))) [] := rfl
theorem int_xor {k : IntKind} {a b : Int} {K : OK} : intVC .xor k a b K = K (.d (.int k (bXor k a b))) [] := rfl
theorem int_shr {k : IntKind} {a b : Int} {K : OK} : intVC .shr k a b K = Req (0 ≤ b) (K (.d (.int k (bShr k a b))) []) := rfl
theorem int_shl {k : IntKind} {a b : Int} {K : OK} : intVC .shl k a b K = Req (0 ≤ b) (K (.d (.int k (bShl k a b))) []) := rfl
attribute [go_sem high] int_and int_or int_xor int_shr int_shl

section
variable {P : Program} {h : Heap} {tb : Nat} {f : FuncId} {args args0 : List V} {H0 : List (Nat × AObj)} {K : OK} {outs : List V} {res : V} {H' : List (Nat × AObj)}
theorem call_gen (ms : List Bool) {as : List Arg} {ps bs : List Nat} (gone : Bool) (hc : CallOK P f args0 H0 outs res H') (hg : gather h ms args = some (as, ps, bs))
    (hn : (nodup ps && nodup (as.filterMap Arg.name?) && ps.all fun n => !bs.contains n) = true) (ha : as.map (argV ps) = args0) (hH : objs h (idx ps) 0 ps = H0)
    (ho : (outsFit H' as outs && smallKeys H') = true) (hof : ownFit h H' as outs) (hf : gone = true ∨ bs = [] ∨ (FlatV res ∧ FlatH H'))
    (hk : K (renV (back tb as outs H') res) (updOf tb as outs (bif gone then bs ++ ps else ps) H')) : callVC P h tb f args K := by
  subst ha; subst hH
  refine ⟨[], ms, as, ps, bs, outs, res, H', hg, hn, hc, ho, hof, ?_⟩
  cases gone with
  | true => exact .inr hk
  | false => exact .inl ⟨hf.resolve_left (by simp), hk⟩
/-- As call_gen, where structs that are handed on by value are laid flat (sh tells which). -/
theorem call_shape (sh ms : List Bool) {as : List Arg} {ps bs : List Nat} (gone : Bool) {args1 outs1 : List V} (hc : CallOK P f args1 H0 outs1 res H') (hg : gather h ms (flatA sh args) = some (as, ps, bs))
    (hn : (nodup ps && nodup (as.filterMap Arg.name?) && ps.all fun n => !bs.contains n) = true) (ha : grpA sh args (as.map (argV ps)) = args1) (hH : objs h (idx ps) 0 ps = H0)
    (ho' : grpA sh args outs = outs1) (ho : (outsFit H' as outs && smallKeys H') = true) (hof : ownFit h H' as outs) (hf : gone = true ∨ bs = [] ∨ (FlatV res ∧ FlatH H'))
    (hk : K (renV (back tb as outs H') res) (updOf tb as outs (bif gone then bs ++ ps else ps) H')) : callVC P h tb f args K := by
  subst ha; subst hH; subst ho'
  refine ⟨sh, ms, as, ps, bs, outs, res, H', hg, hn, hc, ho, hof, ?_⟩
  cases gone with
  | true => exact .inr hk
  | false => exact .inl ⟨hf.resolve_left (by simp), hk⟩
end
end Go.Rx

namespace Go.Rx
open Go Go.RowKit

/-- What is given back, read as data. -/
def FrEq : Option (V × List Nat) → V → Prop
  | some (v, _), r => v = r
  | none, _ => False

def retF (rs : List ResultVar) (T : Tys) (res : V) : Exit → St → Prop
  | .normal, s | .ret, s => resK T s rs fun vs => FrEq (freezeV (uget s.H) (one vs)) res
  | _, _ => False

/-- A function that is handed data, and whose answer is read as data at its end. -/
theorem call_fr {P : Program} {T : Tys} (hT : TyOK P T) (hm : P.follows .mixedOrders = true) {f : FuncId} {fn : Func} {c : Code} (hf : P.funcs[f]? = some fn) (hname : (fn.name == "runtime.NumGoroutine") = false) (hb : fn.body = some c)
    (hd : codeDst (canSlot fn.ntmps []) c = true) (hr hl : Hints) {args : List V} {outs : List V} {res : V} (hlen : args.length ≤ fn.ntmps) (ho : (outs.all fun x => match x with | .dead => true | _ => false) = true)
    (hv : cVC T P hr hl c (start args []) (retF fn.results.toList T res)) : CallOK P f args [] outs res [] := by
  refine ⟨⟨fn, hf, hname, by rw [hb]; rfl⟩, fun w vs lam ok hk hal hargs => ?_⟩
  refine calls_of_wp hf hb ?_
  let U : Nat → Prop := fun b => ∃ n, hget ([] : List (Nat × AObj)) n ≠ none ∧ lam n = some b
  let a0 : Act := { tmps := ⟨vs⟩ ++ Array.replicate (fn.ntmps - (⟨vs⟩ : Array Value).size) undef, defers := [] }
  let N : Slots := { size := fn.ntmps, pin := fun t => ([] : List Bool).getD t false, val := fun t => a0.tmps.getD t undef }
  have hcan : ∀ d, canSlot fn.ntmps [] d = true → N.can d := fun d h => by
    simp only [canSlot, Bool.and_eq_true, Nat.blt_eq, Bool.not_eq_true'] at h
    exact h
  have hsz : vs.length ≤ fn.ntmps := by omega
  have ha0 : ∀ t, a0.tmps.getD t undef = (vs[t]?).getD undef := fun t => by
    show ((⟨vs⟩ : Array Value) ++ Array.replicate (fn.ntmps - vs.length) undef).getD t undef = _
    simp only [Array.getD_eq_getD_getElem?]
    rw [Array.getElem?_append]
    by_cases ht : t < vs.length
    · simp [ht]
    · simp only [List.size_toArray, ht, if_false]
      rw [List.getElem?_eq_none (by omega), Array.getElem?_replicate]
      split <;> rfl
  have hE : ∀ t, eget (start args []).env t = (args[t]?).getD .dead := fun t => by
    have := eget_start args 0 t
    rwa [Nat.zero_add] at this
  have hH : uget (start args []).H = hget [] := uget_map []
  have hs : SRs ok U w N (start args []) a0 w := by
    refine ⟨ok, lam, ?_, fun t => ?_, fun t => VGood.all _, ?_, fun t _ => rfl, rfl, Fr.refl _ _⟩
    · rw [hH]
      exact ⟨hk, fun n o _ => by cases o with | box c => exact fun v _ => VGood.all v | arr => trivial, fun _ _ => trivial, fun b hb => .inl hb, fun n b hn hb => .inl ⟨n, hn, hb⟩, Nat.le_refl _⟩
    · rw [hH, hE, ha0]
      cases hx : args[t]? with
      | none => exact .dead
      | some x =>
        have ht : t < vs.length := by have := (List.getElem?_eq_some_iff.1 hx).1; omega
        have hv : vs[t]? = some vs[t] := List.getElem?_eq_getElem ht
        rw [hv]
        exact hargs t x _ hx hv
    · show ((⟨vs⟩ : Array Value) ++ Array.replicate (fn.ntmps - vs.length) undef).size = fn.ntmps
      simp; omega
  refine code_sound hT hcan hm hr hl c hd (fun e s a w' h hK => ?_) hs hv
  have fin : (resK T s fn.results.toList fun vs => FrEq (freezeV (uget s.H) (one vs)) res) → a.defers = [] ∧ ∃ v, (results fn a.tmps).run P w' = .ok v w' ∧ ∃ v' lam' ok', Ending.returned v = .returned v' ∧ Fr U w w' ∧ HOK w' ok' lam' (hget []) ∧
      VRel w' ok' lam' (hget []) res v' ∧ (∀ (i : Nat) x v, outs[i]? = some x → vs[i]? = some v → VRel w' ok' lam' (hget []) x v) ∧
      (∀ b, ok' b → ok b ∨ (∃ n, hget ([] : List (Nat × AObj)) n ≠ none ∧ lam n = some b) ∨ w.heap.size ≤ b) ∧
      (∀ n b, hget ([] : List (Nat × AObj)) n ≠ none → lam' n = some b → (∃ n', hget ([] : List (Nat × AObj)) n' ≠ none ∧ lam n' = some b) ∨ w.heap.size ≤ b) := by
    intro hlv
    obtain ⟨ok1, lam1, h⟩ := h
    obtain ⟨rvs, cvs, hlv, hrun, hrel⟩ := res_sound hT h (f := fun | .tmp t => pure (a.tmps.getD t undef) | .cell b t => do loadVar t (← asAddr (a.tmps.getD b undef))) (fun _ => rfl) (fun _ _ => rfl) hlv
    cases hfz : freezeV (uget s.H) (one rvs) with
    | none => rw [hfz] at hlv; exact hlv.elim
    | some p =>
      obtain ⟨v', ls⟩ := p
      rw [hfz] at hlv
      obtain rfl : v' = res := hlv
      have hok := h.ctx.hok
      refine ⟨h.defers, _, results_run (f := fun | .tmp t => pure (a.tmps.getD t undef) | .cell b t => do loadVar t (← asAddr (a.tmps.getD b undef))) (fun _ => rfl) (fun _ _ => rfl) hrun, _, lam1, okB ok1 lam1 (uget s.H) ls, rfl, ⟨h.fr.os, h.fr.tape, h.fr.output, h.fr.size, fun k hk hn => h.fr.block k hk (by rintro (h1 | h1); exact hn h1; omega), h.fr.sized⟩,
        ⟨fun n n' b h => absurd rfl h, fun n b h => absurd rfl h, fun n b h => absurd rfl h, fun b hb => ?_, fun n o h => by cases h⟩, freezeV_sound hok (one_rel hrel) hfz, fun i x v hx _ => ?_, fun b hb => ?_, fun n b h => absurd rfl h⟩
      · rcases hb with hb | ⟨n, _, h1, h2⟩
        · exact hok.oklt b hb
        · exact hok.lt n b h1 h2
      · have := List.all_eq_true.1 ho x (List.mem_of_getElem? hx)
        cases x <;> first | exact .dead | simp at this
      · rcases hb with hb | ⟨n, _, h1, h2⟩
        · exact h.ctx.okb b hb
        · rcases h.ctx.ownb n b h1 h2 with h | h
          · exact .inr (.inl h)
          · exact .inr (.inr h)
  cases e with
  | normal => exact fin hK
  | ret => exact fin hK
  | _ => exact hK.elim

attribute [go_sem] FrEq.eq_1 FrEq.eq_2 retF.eq_1 retF.eq_2 retF.eq_3 toDs.eq_1 toDs.eq_2
theorem freezeV_tup {h : Heap} {vs : List V} : freezeV h (.tup vs) = match toDs h vs with | some (xs, ls) => some (.tup (xs.map .d), ls) | none => none := rfl
theorem freezeV_d {h : Heap} {x : D} : freezeV h (.d x) = some (.d x, []) := rfl
theorem freezeV_own {h : Heap} {n o l : Nat} : freezeV h (.own n o l) = match toD h (.own n o l) with | some (x, ls) => some (.d x, ls) | none => none := rfl
theorem freezeV_agg {h : Heap} {vs : List V} : freezeV h (.agg vs) = match toD h (.agg vs) with | some (x, ls) => some (.d x, ls) | none => none := rfl
theorem freezeV_nils {h : Heap} : freezeV h .nils = some (.d (.sl []), []) := rfl
attribute [go_sem] freezeV_tup freezeV_d freezeV_own freezeV_agg freezeV_nils
@[congr] theorem FrEq_congr {o o' : Option (V × List Nat)} {r : V} (e : mark o = o') : FrEq o r = FrEq o' r := by subst e; rfl
end Go.Rx

namespace Go.Rx
open Go Go.RowKit
section
variable {P : Program} {h : Heap} {tb : Nat} {f : FuncId} {K : OK} {xs : List D} {ls : List Nat} {res : V} {H' H0 : List (Nat × AObj)}

theorem not_mem_of {ls : List Nat} {m : Nat} (h : ls.contains m = false) : m ∉ ls := by simpa using h

/-- Where the first thing that is handed on is a box of ours, which may own arrays; the others are data. -/
theorem call_boxO (gone : Bool) {n : Nat} {cells : List V} {os : List Nat} {rest : List V} (hc : CallOK P f (.ref 0 0 :: xs.map .d) H0 (.ref 0 0 :: xs.map fun _ => .dead) res H')
    (hn : h n = some (.box cells)) (hps : refO h n = n :: os) (hnd : nodup (n :: os) = true) (hr : toDs h rest = some (xs, ls)) (hdis : ((n :: os).all fun m => !ls.contains m) = true)
    (hH : objs h (idx (n :: os)) 0 (n :: os) = H0) (hb : isBox (hget H' 0) = true) (hs : smallKeys H' = true)
    (hf : gone = true ∨ ls = [] ∨ (FlatV res ∧ FlatH H')) (hk : K (renV (bx n tb H') res) ((bif gone then ls.map (·, none) else []) ++ ((n :: os).map (·, none) ++ updX n tb H' H'))) : callVC P h tb f (.ref n 0 :: rest) K := by
  subst hH
  have hidx : idx (n :: os) n = some 0 := by simp [idx]
  have hbk : back tb (.box n :: xs.map Arg.dat) (.ref 0 0 :: xs.map fun _ => V.dead) H' = bx n tb H' := by
    funext j
    unfold back bx
    simp only [backTo]
    cases h0 : (0 : Nat) == j with
    | true => cases hasKey H' j <;> rfl
    | false => simp only [cond_false]; rw [backTo_dat]; unfold bk; cases hasKey H' j <;> rfl
  have hu : ∀ l, updOf tb (.box n :: xs.map Arg.dat) (.ref 0 0 :: xs.map fun _ => V.dead) l H' = l.map (·, none) ++ updX n tb H' H' := fun l => by rw [updOf, hbk, updX_eq]
  have hgat : gather h [] (.ref n 0 :: rest) = some (.box n :: xs.map .dat, n :: os, ls) := by
    simp only [gather, List.drop_nil, gather_of_toDs hr, List.headD_nil, gather1, hn, hps, List.append_nil]
  have hcall : CallOK P f ((Arg.box n :: xs.map .dat).map (argV (n :: os))) (objs h (idx (n :: os)) 0 (n :: os)) (.ref 0 0 :: xs.map fun _ => .dead) res H' := by
    have e1 : (xs.map Arg.dat).map (argV (n :: os)) = xs.map .d := by rw [List.map_map]; rfl
    simp only [List.map_cons, e1, argV, renC, hidx]
    exact hc
  refine ⟨[], [], _, _, _, .ref 0 0 :: xs.map fun _ => .dead, res, H', hgat, ?_, hcall, ?_, ownFit_dat xs, ?_⟩
  · rw [hnd, hdis]
    simp only [List.filterMap_cons, Arg.name?, names_dat, nodup]
    simp
  · simp only [outsFit, outsFit_dat, hs, hb]; rfl
  · cases gone with
    | true => refine .inr ?_; rw [hbk, hu]; simpa [List.map_append, List.append_assoc] using hk
    | false =>
      refine .inl ⟨hf.resolve_left (by simp), ?_⟩
      rw [hbk, hu]; simpa using hk
end
end Go.Rx
namespace Go.Rx
open Go Go.RowKit
section
variable {P : Program} {h : Heap} {tb : Nat} {f : FuncId} {K : OK} {xs : List D} {ls : List Nat} {res : V} {H' H0 : List (Nat × AObj)}

theorem gather_last {n : Nat} {cells : List V} {os : List Nat} (hn : h n = some (.box cells)) (hps : refO h n = n :: os) : ∀ {vs : List V} {xs : List D} {ls : List Nat}, toDs h vs = some (xs, ls) →
    gather h [] (vs ++ [.ref n 0]) = some (xs.map Arg.dat ++ [.box n], n :: os, ls)
  | [], xs, ls, e => by
    simp [toDs] at e; obtain ⟨rfl, rfl⟩ := e
    simp only [List.nil_append, gather, List.drop_nil, List.headD_nil, gather1, hn, hps, List.append_nil, List.map_nil]
  | v :: vs, xs, ls, e => by
    simp only [toDs] at e
    split at e
    · rename_i x l xs' ls' h1 h2
      simp at e; obtain ⟨rfl, rfl⟩ := e
      have ih := gather_last hn hps h2
      have hd : gatherD h v (xs'.map Arg.dat ++ [.box n]) (n :: os) ls' = some (.dat x :: (xs'.map Arg.dat ++ [.box n]), n :: os, l ++ ls') := by unfold gatherD; rw [h1]
      simp only [List.cons_append, gather, List.drop_nil, ih, List.headD_nil, List.map_cons]
      cases v with
      | ref n off => simp [toD, cD] at h1
      | _ => exact hd
    · cases e
theorem outsFit_last (hb : isBox (hget H' 0) = true) {n : Nat} : ∀ xs : List D, outsFit H' (xs.map Arg.dat ++ [.box n]) (xs.map (fun _ => V.dead) ++ [.ref 0 0]) = true
  | [] => by simp [outsFit, hb]
  | x :: xs => by simp only [List.map_cons, List.cons_append, outsFit]; exact outsFit_last hb xs
theorem ownFit_last {n : Nat} : ∀ xs : List D, ownFit h H' (xs.map Arg.dat ++ [.box n]) (xs.map (fun _ => V.dead) ++ [.ref 0 0])
  | [] => trivial
  | x :: xs => ownFit_last xs
theorem backTo_last {n : Nat} : ∀ (xs : List D) (j : Nat), backTo (xs.map Arg.dat ++ [.box n]) (xs.map (fun _ => V.dead) ++ [.ref 0 0]) j = bif 0 == j then some n else none
  | [], j => rfl
  | x :: xs, j => by simp only [List.map_cons, List.cons_append, backTo]; exact backTo_last xs j
theorem names_last {n : Nat} : ∀ xs : List D, (xs.map Arg.dat ++ [Arg.box n]).filterMap Arg.name? = [n]
  | [] => rfl
  | x :: xs => by simp only [List.map_cons, List.cons_append, List.filterMap_cons, Arg.name?]; exact names_last xs

/-- Where the last thing that is handed on is a box of ours, which may own arrays; the others are data. -/
theorem call_boxL (gone : Bool) {n : Nat} {cells : List V} {os : List Nat} {vs : List V} (hc : CallOK P f (xs.map .d ++ [.ref 0 0]) H0 (xs.map (fun _ => .dead) ++ [.ref 0 0]) res H')
    (hn : h n = some (.box cells)) (hps : refO h n = n :: os) (hnd : nodup (n :: os) = true) (hr : toDs h vs = some (xs, ls)) (hdis : ((n :: os).all fun m => !ls.contains m) = true)
    (hH : objs h (idx (n :: os)) 0 (n :: os) = H0) (hb : isBox (hget H' 0) = true) (hs : smallKeys H' = true)
    (hf : gone = true ∨ ls = [] ∨ (FlatV res ∧ FlatH H')) (hk : K (renV (bx n tb H') res) ((bif gone then ls.map (·, none) else []) ++ ((n :: os).map (·, none) ++ updX n tb H' H'))) {args : List V} (ha : args = vs ++ [.ref n 0]) : callVC P h tb f args K := by
  subst hH; subst ha
  have hidx : idx (n :: os) n = some 0 := by simp [idx]
  have hbk : back tb (xs.map Arg.dat ++ [.box n]) (xs.map (fun _ => V.dead) ++ [.ref 0 0]) H' = bx n tb H' := by
    funext j
    unfold back bx
    rw [backTo_last]
    cases h0 : (0 : Nat) == j with
    | true => cases hasKey H' j <;> rfl
    | false => simp only [cond_false]; unfold bk; cases hasKey H' j <;> rfl
  have hu : ∀ l, updOf tb (xs.map Arg.dat ++ [.box n]) (xs.map (fun _ => V.dead) ++ [.ref 0 0]) l H' = l.map (·, none) ++ updX n tb H' H' := fun l => by rw [updOf, hbk, updX_eq]
  have hcall : CallOK P f ((xs.map Arg.dat ++ [Arg.box n]).map (argV (n :: os))) (objs h (idx (n :: os)) 0 (n :: os)) (xs.map (fun _ => .dead) ++ [.ref 0 0]) res H' := by
    have e1 : (xs.map Arg.dat).map (argV (n :: os)) = xs.map .d := by rw [List.map_map]; rfl
    simp only [List.map_append, List.map_cons, List.map_nil, e1, argV, renC, hidx]
    exact hc
  refine ⟨[], [], _, _, _, xs.map (fun _ => .dead) ++ [.ref 0 0], res, H', gather_last hn hps hr, ?_, (by simp only [grpA_nil]; exact hcall), ?_, ownFit_last xs, ?_⟩
  · rw [hnd, hdis, names_last]
    simp [nodup]
  · rw [outsFit_last hb, hs]; rfl
  · cases gone with
    | true => refine .inr ?_; rw [hbk, hu]; simpa [List.map_append, List.append_assoc] using hk
    | false =>
      refine .inl ⟨hf.resolve_left (by simp), ?_⟩
      rw [hbk, hu]; simpa using hk
end
end Go.Rx

namespace Go.Rx
open Go

theorem drop_cons {α : Type} {l : List α} {i : Nat} {p : α} (h : l[i]? = some p) : l.drop i = p :: l.drop (i + 1) := by
  obtain ⟨hi, h⟩ := List.getElem?_eq_some_iff.1 h
  rw [List.drop_eq_getElem_cons hi, h]
theorem take_snoc {α : Type} {l : List α} {i : Nat} {p : α} (h : l[i]? = some p) : l.take (i + 1) = l.take i ++ [p] := by
  obtain ⟨hi, h⟩ := List.getElem?_eq_some_iff.1 h
  rw [List.take_succ_eq_append_getElem hi, h]
theorem some_at {α : Type} {l : List α} {i : Nat} (h : (i : Int) < (l.length : Int)) : ∃ p, l[i]? = some p :=
  ⟨l[i]'(by omega), by simp⟩
theorem take_set {α : Type} {l m : List α} {i : Nat} {p : α} (h : l[i]? = some p) (hl : m.length = l.length) (h4 : m.take i = l.take i) : (m.set i p).take (i + 1) = l.take (i + 1) := by
  obtain ⟨hi, h⟩ := List.getElem?_eq_some_iff.1 h
  rw [List.take_succ_eq_append_getElem (by simp; omega), List.take_succ_eq_append_getElem hi, h]
  simp [List.take_set_of_le, h4]

def sub64 (a : Int) (n : Nat) : Int := IntKind.i64.wrap (a - n)
theorem sub64_eq {a : Int} {n : Nat} (h1 : 0 ≤ a) (h2 : a ≤ 1048576) (h3 : n ≤ LEN) : sub64 a n = a - n := by
  simp only [LEN] at h3
  exact wrap_int (by omega) (by omega)

/-- One size behind the other; below 0 it ends. -/
def chain : List (Int → Int) → Int → Int
  | [], l => l
  | f :: fs, l => if f l < 0 then -1 else chain fs (f l)
theorem chain_neg {f : Int → Int} {fs : List (Int → Int)} {l : Int} (h : f l < 0) : chain (f :: fs) l = -1 := if_pos h
theorem chain_pos {f : Int → Int} {fs : List (Int → Int)} {l : Int} (h : ¬ f l < 0) : chain (f :: fs) l = chain fs (f l) := if_neg h
theorem chain_nil {l : Int} : chain [] l = l := rfl
/-- Over the elements of a list. -/
def chainL {α : Type} (f : α → Int → Int) : List α → Int → Int
  | [], l => l
  | a :: as_, l => if f a l < 0 then -1 else chainL f as_ (f a l)
theorem chainL_neg {α : Type} {f : α → Int → Int} {a : α} {r : List α} {l : Int} (h : f a l < 0) : chainL f (a :: r) l = -1 := if_pos h
theorem chainL_pos {α : Type} {f : α → Int → Int} {a : α} {r : List α} {l : Int} (h : ¬ f a l < 0) : chainL f (a :: r) l = chainL f r (f a l) := if_neg h
/-- What a size tells: it takes away, and where it stays at least 0 what it measures is small. -/
def Tells {α : Type} (f : α → Int → Int) (ok small : α → Prop) : Prop := ∀ x a, ok x → 0 ≤ a → a ≤ 1048576 → ¬ f x a < 0 → f x a ≤ a ∧ small x
theorem tells_chainL {α : Type} {f : α → Int → Int} {ok small : α → Prop} (h : Tells f ok small) : ∀ (l : List α) (a : Int), (∀ x ∈ l, ok x) → 0 ≤ a → a ≤ 1048576 → ¬ chainL f l a < 0 → chainL f l a ≤ a ∧ ∀ x ∈ l, small x
  | [], a, _, _, _, _ => ⟨Int.le_refl _, by simp⟩
  | x :: l, a, hk, h1, h2, h3 => by
    by_cases hn : f x a < 0
    · rw [chainL_neg hn] at h3; omega
    · rw [chainL_pos hn] at h3 ⊢
      obtain ⟨g1, g2⟩ := h x a (hk x (by simp)) h1 h2 hn
      obtain ⟨g3, g4⟩ := tells_chainL h l (f x a) (fun y hy => hk y (by simp [hy])) (by omega) (by omega) h3
      exact ⟨by omega, fun y hy => (List.mem_cons.1 hy).elim (fun e => e ▸ g2) (g4 y)⟩
/-- A slice of things that have sizes. -/
def szSl {α : Type} (f : α → Int → Int) (l : List α) (a : Int) : Int := if sub64 a l.length < 0 then -1 else chainL f l (sub64 a l.length)
def okSl {α : Type} (ok : α → Prop) (l : List α) : Prop := l.length ≤ LEN ∧ ∀ x ∈ l, ok x
def smallSl {α : Type} (small : α → Prop) (l : List α) : Prop := l.length ≤ 1048576 ∧ ∀ x ∈ l, small x
theorem tells_sl {α : Type} {f : α → Int → Int} {ok small : α → Prop} (h : Tells f ok small) : Tells (szSl f) (okSl ok) (smallSl small) := fun l a hk h1 h2 h3 => by
  unfold szSl at h3 ⊢
  rw [sub64_eq h1 h2 hk.1] at h3 ⊢
  split at h3
  · omega
  · rename_i hn
    rw [if_neg hn]
    obtain ⟨g1, g2⟩ := tells_chainL h l _ hk.2 (by omega) (by omega) h3
    exact ⟨by omega, by omega, g2⟩
/-- A slice of plain things. -/
def szFl {α : Type} (l : List α) (a : Int) : Int := if sub64 a l.length < 0 then -1 else sub64 a l.length
theorem tells_fl {α : Type} : Tells (szFl (α := α)) (fun l => l.length ≤ LEN) (fun l => l.length ≤ 1048576) := fun l a hk h1 h2 h3 => by
  unfold szFl at h3 ⊢
  rw [sub64_eq h1 h2 hk] at h3 ⊢
  split at h3
  · omega
  · rename_i hn; rw [if_neg hn]; omega
/-- A text. -/
def szTx (s : List UInt8) (a : Int) : Int := sub64 a s.length
theorem tells_tx : Tells szTx (fun s => s.length ≤ LEN) (fun s => s.length ≤ 1048576) := fun s a hk h1 h2 h3 => by
  unfold szTx at h3 ⊢
  rw [sub64_eq h1 h2 hk] at h3 ⊢
  omega
theorem tells_step {α β : Type} {f : β → Int → Int} {ok small : β → Prop} (h : Tells f ok small) {g : α → β} {x : α} {fs : List (Int → Int)} {a : Int} (hk : ok (g x)) (h1 : 0 ≤ a) (h2 : a ≤ 1048576) (h3 : ¬ chain ((fun l => f (g x) l) :: fs) a < 0) :
    small (g x) ∧ 0 ≤ f (g x) a ∧ f (g x) a ≤ a ∧ ¬ chain fs (f (g x) a) < 0 ∧ chain ((fun l => f (g x) l) :: fs) a = chain fs (f (g x) a) := by
  by_cases hn : f (g x) a < 0
  · rw [chain_neg (f := fun l => f (g x) l) hn] at h3; omega
  · rw [chain_pos (f := fun l => f (g x) l) hn] at h3 ⊢
    obtain ⟨g1, g2⟩ := h (g x) a hk h1 h2 hn
    exact ⟨g2, by omega, g1, h3, rfl⟩

/-! lists of plain things as data -/
def strs (l : List (List UInt8)) : List (List D) := l.map fun s => [.str s]
theorem strs_length {l : List (List UInt8)} : (strs l).length = l.length := by simp [strs]
theorem lget_strs {l : List (List UInt8)} {i : Nat} {p : List UInt8} (h : l[i]? = some p) : lget (strs l) i = [.str p] := by simp [lget, strs, List.getD, h]
theorem strs_set {m : List (List UInt8)} {i : Nat} {p : List UInt8} : (strs m).set i [.str p] = strs (m.set i p) := by simp [strs, List.map_set]
theorem strs_zero {n : Nat} : List.replicate n [D.str []] = strs (List.replicate n []) := by simp [strs]
def ints (l : List Int) : List (List D) := l.map fun s => [.int .i64 s]
theorem ints_length {l : List Int} : (ints l).length = l.length := by simp [ints]
theorem lget_ints {l : List Int} {i : Nat} {p : Int} (h : l[i]? = some p) : lget (ints l) i = [.int .i64 p] := by simp [lget, ints, List.getD, h]
theorem ints_set {m : List Int} {i : Nat} {p : Int} : (ints m).set i [.int .i64 p] = ints (m.set i p) := by simp [ints, List.map_set]
theorem ints_zero {n : Nat} : List.replicate n [D.int .i64 0] = ints (List.replicate n 0) := by simp [ints]
end Go.Rx

namespace Go.Rx
open Go
set_option linter.unusedSimpArgs false

/-! lists of plain things, more -/
def bls (l : List Bool) : List (List D) := l.map fun b => [.bool b]
theorem bls_length {l : List Bool} : (bls l).length = l.length := by simp [bls]
theorem lget_bls {l : List Bool} {i : Nat} {p : Bool} (h : l[i]? = some p) : lget (bls l) i = [.bool p] := by simp [lget, bls, List.getD, h]
theorem bls_set {m : List Bool} {i : Nat} {p : Bool} : (bls m).set i [.bool p] = bls (m.set i p) := by simp [bls, List.map_set]
theorem bls_zero {n : Nat} : List.replicate n [D.bool false] = bls (List.replicate n false) := by simp [bls]
def bys (l : List UInt8) : List (List D) := l.map byteCell
theorem bys_length {l : List UInt8} : (bys l).length = l.length := by simp [bys]
theorem bys_set {m : List UInt8} {i : Nat} {p : UInt8} : (bys m).set i [.int .u8 p.toNat] = bys (m.set i p) := by simp [bys, List.map_set, byteCell]
theorem lget_bys {l : List UInt8} {i : Nat} {p : UInt8} (h : l[i]? = some p) : lget (bys l) i = [.int .u8 p.toNat] := by simp [lget, bys, List.getD, h, byteCell]
theorem strs_snoc {m : List (List UInt8)} {p : (List UInt8)} : strs m ++ [[.str p]] = strs (m ++ [p]) := by simp [strs]
theorem strs_app {m l : List (List UInt8)} : strs m ++ strs l = strs (m ++ l) := by simp [strs]
theorem strs_take {m : List (List UInt8)} {n : Nat} : (strs m).take n = strs (m.take n) := by simp [strs]
theorem strs_drop {m : List (List UInt8)} {n : Nat} : (strs m).drop n = strs (m.drop n) := by simp [strs]
theorem strs_nil : strs [] = [] := rfl
theorem strs_row {m : List (List UInt8)} : ∀ c ∈ strs m, c.length = 1 := fun c hc => by simp only [strs, List.mem_map] at hc; obtain ⟨p, _, rfl⟩ := hc; rfl
theorem strs_one {m : List (List UInt8)} : ∀ c ∈ strs m, ∀ d ∈ c, d.one = true := fun c hc d hd => by
  simp only [strs, List.mem_map] at hc; obtain ⟨p, _, rfl⟩ := hc
  simp only [List.mem_cons, List.not_mem_nil, or_false] at hd
  subst hd; rfl
theorem flat_strs {l : List (List UInt8)} {m : Nat} : FlatO (.arr m (strs l)) := by
  intro e he d hd
  simp only [strs, List.mem_map] at he
  obtain ⟨p, _, rfl⟩ := he
  simp only [List.mem_cons, List.not_mem_nil, or_false] at hd
  subst hd; first | exact .str _ | exact .int _ _ | exact .bool _
theorem ints_snoc {m : List Int} {p : Int} : ints m ++ [[.int .i64 p]] = ints (m ++ [p]) := by simp [ints]
theorem ints_app {m l : List Int} : ints m ++ ints l = ints (m ++ l) := by simp [ints]
theorem ints_take {m : List Int} {n : Nat} : (ints m).take n = ints (m.take n) := by simp [ints]
theorem ints_drop {m : List Int} {n : Nat} : (ints m).drop n = ints (m.drop n) := by simp [ints]
theorem ints_nil : ints [] = [] := rfl
theorem ints_row {m : List Int} : ∀ c ∈ ints m, c.length = 1 := fun c hc => by simp only [ints, List.mem_map] at hc; obtain ⟨p, _, rfl⟩ := hc; rfl
theorem ints_one {m : List Int} : ∀ c ∈ ints m, ∀ d ∈ c, d.one = true := fun c hc d hd => by
  simp only [ints, List.mem_map] at hc; obtain ⟨p, _, rfl⟩ := hc
  simp only [List.mem_cons, List.not_mem_nil, or_false] at hd
  subst hd; rfl
theorem flat_ints {l : List Int} {m : Nat} : FlatO (.arr m (ints l)) := by
  intro e he d hd
  simp only [ints, List.mem_map] at he
  obtain ⟨p, _, rfl⟩ := he
  simp only [List.mem_cons, List.not_mem_nil, or_false] at hd
  subst hd; first | exact .str _ | exact .int _ _ | exact .bool _
theorem bls_snoc {m : List Bool} {p : Bool} : bls m ++ [[.bool p]] = bls (m ++ [p]) := by simp [bls]
theorem bls_app {m l : List Bool} : bls m ++ bls l = bls (m ++ l) := by simp [bls]
theorem bls_take {m : List Bool} {n : Nat} : (bls m).take n = bls (m.take n) := by simp [bls]
theorem bls_drop {m : List Bool} {n : Nat} : (bls m).drop n = bls (m.drop n) := by simp [bls]
theorem bls_nil : bls [] = [] := rfl
theorem bls_row {m : List Bool} : ∀ c ∈ bls m, c.length = 1 := fun c hc => by simp only [bls, List.mem_map] at hc; obtain ⟨p, _, rfl⟩ := hc; rfl
theorem bls_one {m : List Bool} : ∀ c ∈ bls m, ∀ d ∈ c, d.one = true := fun c hc d hd => by
  simp only [bls, List.mem_map] at hc; obtain ⟨p, _, rfl⟩ := hc
  simp only [List.mem_cons, List.not_mem_nil, or_false] at hd
  subst hd; rfl
theorem flat_bls {l : List Bool} {m : Nat} : FlatO (.arr m (bls l)) := by
  intro e he d hd
  simp only [bls, List.mem_map] at he
  obtain ⟨p, _, rfl⟩ := he
  simp only [List.mem_cons, List.not_mem_nil, or_false] at hd
  subst hd; first | exact .str _ | exact .int _ _ | exact .bool _
theorem bys_snoc {m : List UInt8} {p : UInt8} : bys m ++ [[.int .u8 p.toNat]] = bys (m ++ [p]) := by simp [bys, byteCell]
theorem bys_app {m l : List UInt8} : bys m ++ bys l = bys (m ++ l) := by simp [bys]
theorem bys_take {m : List UInt8} {n : Nat} : (bys m).take n = bys (m.take n) := by simp [bys]
theorem bys_drop {m : List UInt8} {n : Nat} : (bys m).drop n = bys (m.drop n) := by simp [bys]
theorem bys_nil : bys [] = [] := rfl
theorem bys_row {m : List UInt8} : ∀ c ∈ bys m, c.length = 1 := fun c hc => by simp only [bys, List.mem_map] at hc; obtain ⟨p, _, rfl⟩ := hc; rfl
theorem bys_one {m : List UInt8} : ∀ c ∈ bys m, ∀ d ∈ c, d.one = true := fun c hc d hd => by
  simp only [bys, List.mem_map] at hc; obtain ⟨p, _, rfl⟩ := hc
  simp only [byteCell, List.mem_cons, List.not_mem_nil, or_false] at hd
  subst hd; rfl
theorem flat_bys {l : List UInt8} {m : Nat} : FlatO (.arr m (bys l)) := by
  intro e he d hd
  simp only [bys, List.mem_map] at he
  obtain ⟨p, _, rfl⟩ := he
  simp only [byteCell, List.mem_cons, List.not_mem_nil, or_false] at hd
  subst hd; first | exact .str _ | exact .int _ _ | exact .bool _
theorem strs_all {m : List (List UInt8)} : (strs m).take m.length = strs m := by rw [strs_take, List.take_length]
theorem strs_all1 {m : List (List UInt8)} {p : (List UInt8)} : (strs (m ++ [p])).take (m.length + 1) = strs (m ++ [p]) := by rw [strs_take, List.take_of_length_le (by simp)]
theorem strs_rowT {m : List (List UInt8)} : (∀ c ∈ strs m, c.length = 1) = True := eq_true strs_row
theorem strs_oneT {m : List (List UInt8)} : (∀ c ∈ strs m, ∀ d ∈ c, d.one = true) = True := eq_true strs_one
attribute [go_sem] strs_length strs_snoc strs_all strs_all1 strs_rowT strs_oneT
theorem ints_all {m : List Int} : (ints m).take m.length = ints m := by rw [ints_take, List.take_length]
theorem ints_all1 {m : List Int} {p : Int} : (ints (m ++ [p])).take (m.length + 1) = ints (m ++ [p]) := by rw [ints_take, List.take_of_length_le (by simp)]
theorem ints_rowT {m : List Int} : (∀ c ∈ ints m, c.length = 1) = True := eq_true ints_row
theorem ints_oneT {m : List Int} : (∀ c ∈ ints m, ∀ d ∈ c, d.one = true) = True := eq_true ints_one
attribute [go_sem] ints_length ints_snoc ints_all ints_all1 ints_rowT ints_oneT
theorem bls_all {m : List Bool} : (bls m).take m.length = bls m := by rw [bls_take, List.take_length]
theorem bls_all1 {m : List Bool} {p : Bool} : (bls (m ++ [p])).take (m.length + 1) = bls (m ++ [p]) := by rw [bls_take, List.take_of_length_le (by simp)]
theorem bls_rowT {m : List Bool} : (∀ c ∈ bls m, c.length = 1) = True := eq_true bls_row
theorem bls_oneT {m : List Bool} : (∀ c ∈ bls m, ∀ d ∈ c, d.one = true) = True := eq_true bls_one
attribute [go_sem] bls_length bls_snoc bls_all bls_all1 bls_rowT bls_oneT
theorem bys_all {m : List UInt8} : (bys m).take m.length = bys m := by rw [bys_take, List.take_length]
theorem bys_all1 {m : List UInt8} {p : UInt8} : (bys (m ++ [p])).take (m.length + 1) = bys (m ++ [p]) := by rw [bys_take, List.take_of_length_le (by simp)]
theorem bys_rowT {m : List UInt8} : (∀ c ∈ bys m, c.length = 1) = True := eq_true bys_row
theorem bys_oneT {m : List UInt8} : (∀ c ∈ bys m, ∀ d ∈ c, d.one = true) = True := eq_true bys_one
attribute [go_sem] bys_length bys_snoc bys_all bys_all1 bys_rowT bys_oneT
theorem forall_nilT {α : Type} {p : α → Prop} : (∀ x ∈ ([] : List α), p x) = True := eq_true fun x h => by cases h
attribute [go_sem] List.forall_mem_cons forall_nilT bys_set ints_set strs_set bls_set and_self

/-! Put -/
structure GPut where
  fPage : Int
  fText : List UInt8
  deriving DecidableEq, Inhabited
def GPut.cells (x : GPut) : List D := [.int .i64 x.fPage, .str x.fText]
def GPut.zero : GPut := ⟨0, []⟩
def GPutS (l : List GPut) : List (List D) := l.map GPut.cells
theorem GPut.cells_eq {p : GPut} : p.cells = [.int .i64 p.fPage, .str p.fText] := rfl
theorem GPut.cells_len {p : GPut} : p.cells.length = 2 := rfl
theorem GPutS_length {l : List GPut} : (GPutS l).length = l.length := by simp [GPutS]
theorem lget_GPutS {l : List GPut} {i : Nat} {p : GPut} (h : l[i]? = some p) : lget (GPutS l) i = [.int .i64 p.fPage, .str p.fText] := by simp [lget, GPutS, List.getD, h, GPut.cells]
theorem GPutS_set {m : List GPut} {i : Nat} {p : GPut} : (GPutS m).set i [.int .i64 p.fPage, .str p.fText] = GPutS (m.set i p) := by simp [GPutS, List.map_set, GPut.cells]
theorem GPutS_snoc {m : List GPut} {p : GPut} : GPutS m ++ [[.int .i64 p.fPage, .str p.fText]] = GPutS (m ++ [p]) := by simp [GPutS, GPut.cells]
theorem GPutS_app {m l : List GPut} : GPutS m ++ GPutS l = GPutS (m ++ l) := by simp [GPutS]
theorem GPutS_take {m : List GPut} {n : Nat} : (GPutS m).take n = GPutS (m.take n) := by simp [GPutS]
theorem GPutS_drop {m : List GPut} {n : Nat} : (GPutS m).drop n = GPutS (m.drop n) := by simp [GPutS]
theorem GPutS_nil : GPutS [] = [] := rfl
theorem GPutS_row {m : List GPut} : ∀ c ∈ GPutS m, c.length = 2 := fun c hc => by simp only [GPutS, List.mem_map] at hc; obtain ⟨p, _, rfl⟩ := hc; rfl
theorem GPutS_one {m : List GPut} : ∀ c ∈ GPutS m, ∀ d ∈ c, d.one = true := fun c hc d hd => by
  simp only [GPutS, List.mem_map] at hc; obtain ⟨p, _, rfl⟩ := hc
  simp only [GPut.cells, List.mem_cons, List.not_mem_nil, or_false] at hd
  rcases hd with rfl | rfl <;> rfl
theorem GPutS_snoc2 {m : List GPut} {aPage : Int} {aText : List UInt8} : GPutS m ++ [[.int .i64 aPage, .str aText]] = GPutS (m ++ [⟨aPage, aText⟩]) := by simp [GPutS, GPut.cells]
theorem GPutS_set2 {m : List GPut} {i : Nat} {aPage : Int} {aText : List UInt8} : (GPutS m).set i [.int .i64 aPage, .str aText] = GPutS (m.set i ⟨aPage, aText⟩) := by simp [GPutS, List.map_set, GPut.cells]
theorem GPutS_lit {aPage : Int} {aText : List UInt8} : [[.int .i64 aPage, .str aText]] = GPutS [⟨aPage, aText⟩] := by simp [GPutS, GPut.cells]
theorem GPut_eta {p : GPut} : (⟨p.fPage, p.fText⟩ : GPut) = p := rfl
theorem GPutS_all {m : List GPut} : (GPutS m).take m.length = GPutS m := by rw [GPutS_take, List.take_length]
theorem GPutS_all1 {m : List GPut} {p : GPut} : (GPutS (m ++ [p])).take (m.length + 1) = GPutS (m ++ [p]) := by rw [GPutS_take, List.take_of_length_le (by simp)]
theorem GPutS_rowT {m : List GPut} : (∀ c ∈ GPutS m, c.length = 2) = True := eq_true GPutS_row
theorem GPutS_oneT {m : List GPut} : (∀ c ∈ GPutS m, ∀ d ∈ c, d.one = true) = True := eq_true GPutS_one
attribute [go_sem] GPutS_length GPutS_snoc2 GPutS_set2 GPut_eta GPutS_all GPutS_all1 GPutS_rowT GPutS_oneT
theorem GPutS_zero {n : Nat} : List.replicate n [D.int .i64 0, D.str []] = GPutS (List.replicate n GPut.zero) := by simp [GPutS, GPut.cells, GPut.zero, ints, strs, bls]
theorem flat_GPutS {l : List GPut} {m : Nat} : FlatO (.arr m (GPutS l)) := by
  intro e he d hd
  simp only [GPutS, List.mem_map] at he
  obtain ⟨p, _, rfl⟩ := he
  simp only [GPut.cells, List.mem_cons, List.not_mem_nil, or_false] at hd
  rcases hd with rfl | rfl <;> first | exact .str _ | exact .int _ _ | exact .bool _
def okGPut (x : GPut) : Prop := x.fText.length ≤ LEN
def smallGPut (x : GPut) : Prop := x.fText.length ≤ 1048576
def szGPut (x : GPut) (left : Int) : Int := chain [fun l => szTx x.fText l] left
theorem tells_GPut : Tells szGPut okGPut smallGPut := fun x a hk h1 h2 h3 => by
  unfold szGPut at h3 ⊢
  have o0 := hk
  obtain ⟨s0, p0, q0, n0, e0⟩ := tells_step tells_tx (g := fun x : GPut => x.fText) (x := x) o0 h1 h2 h3
  rw [e0]
  rw [chain_nil]
  exact ⟨by omega, s0⟩

/-! Disk -/
structure GDisk where
  fPages : List (List UInt8)
  fLate : List GPut
  deriving DecidableEq, Inhabited
def GDisk.cells (x : GDisk) : List D := [.sl (strs x.fPages), .sl (GPutS x.fLate)]
def GDisk.zero : GDisk := ⟨[], []⟩
def GDiskS (l : List GDisk) : List (List D) := l.map GDisk.cells
theorem GDisk.cells_eq {p : GDisk} : p.cells = [.sl (strs p.fPages), .sl (GPutS p.fLate)] := rfl
theorem GDisk.cells_len {p : GDisk} : p.cells.length = 2 := rfl
theorem GDiskS_length {l : List GDisk} : (GDiskS l).length = l.length := by simp [GDiskS]
theorem lget_GDiskS {l : List GDisk} {i : Nat} {p : GDisk} (h : l[i]? = some p) : lget (GDiskS l) i = [.sl (strs p.fPages), .sl (GPutS p.fLate)] := by simp [lget, GDiskS, List.getD, h, GDisk.cells]
theorem GDiskS_set {m : List GDisk} {i : Nat} {p : GDisk} : (GDiskS m).set i [.sl (strs p.fPages), .sl (GPutS p.fLate)] = GDiskS (m.set i p) := by simp [GDiskS, List.map_set, GDisk.cells]
theorem GDiskS_snoc {m : List GDisk} {p : GDisk} : GDiskS m ++ [[.sl (strs p.fPages), .sl (GPutS p.fLate)]] = GDiskS (m ++ [p]) := by simp [GDiskS, GDisk.cells]
theorem GDiskS_app {m l : List GDisk} : GDiskS m ++ GDiskS l = GDiskS (m ++ l) := by simp [GDiskS]
theorem GDiskS_take {m : List GDisk} {n : Nat} : (GDiskS m).take n = GDiskS (m.take n) := by simp [GDiskS]
theorem GDiskS_drop {m : List GDisk} {n : Nat} : (GDiskS m).drop n = GDiskS (m.drop n) := by simp [GDiskS]
theorem GDiskS_nil : GDiskS [] = [] := rfl
theorem GDiskS_row {m : List GDisk} : ∀ c ∈ GDiskS m, c.length = 2 := fun c hc => by simp only [GDiskS, List.mem_map] at hc; obtain ⟨p, _, rfl⟩ := hc; rfl
theorem GDiskS_one {m : List GDisk} : ∀ c ∈ GDiskS m, ∀ d ∈ c, d.one = true := fun c hc d hd => by
  simp only [GDiskS, List.mem_map] at hc; obtain ⟨p, _, rfl⟩ := hc
  simp only [GDisk.cells, List.mem_cons, List.not_mem_nil, or_false] at hd
  rcases hd with rfl | rfl <;> rfl
theorem GDiskS_snoc2 {m : List GDisk} {aPages : List (List UInt8)} {aLate : List GPut} : GDiskS m ++ [[.sl (strs aPages), .sl (GPutS aLate)]] = GDiskS (m ++ [⟨aPages, aLate⟩]) := by simp [GDiskS, GDisk.cells]
theorem GDiskS_set2 {m : List GDisk} {i : Nat} {aPages : List (List UInt8)} {aLate : List GPut} : (GDiskS m).set i [.sl (strs aPages), .sl (GPutS aLate)] = GDiskS (m.set i ⟨aPages, aLate⟩) := by simp [GDiskS, List.map_set, GDisk.cells]
theorem GDiskS_lit {aPages : List (List UInt8)} {aLate : List GPut} : [[.sl (strs aPages), .sl (GPutS aLate)]] = GDiskS [⟨aPages, aLate⟩] := by simp [GDiskS, GDisk.cells]
theorem GDisk_eta {p : GDisk} : (⟨p.fPages, p.fLate⟩ : GDisk) = p := rfl
theorem GDiskS_all {m : List GDisk} : (GDiskS m).take m.length = GDiskS m := by rw [GDiskS_take, List.take_length]
theorem GDiskS_all1 {m : List GDisk} {p : GDisk} : (GDiskS (m ++ [p])).take (m.length + 1) = GDiskS (m ++ [p]) := by rw [GDiskS_take, List.take_of_length_le (by simp)]
theorem GDiskS_rowT {m : List GDisk} : (∀ c ∈ GDiskS m, c.length = 2) = True := eq_true GDiskS_row
theorem GDiskS_oneT {m : List GDisk} : (∀ c ∈ GDiskS m, ∀ d ∈ c, d.one = true) = True := eq_true GDiskS_one
attribute [go_sem] GDiskS_length GDiskS_snoc2 GDiskS_set2 GDisk_eta GDiskS_all GDiskS_all1 GDiskS_rowT GDiskS_oneT
theorem GDiskS_zero {n : Nat} : List.replicate n [D.sl [], D.sl []] = GDiskS (List.replicate n GDisk.zero) := by simp [GDiskS, GDisk.cells, GDisk.zero, ints, strs, bls, GPutS]
def okGDisk (x : GDisk) : Prop := okSl (fun s : List UInt8 => s.length ≤ LEN) x.fPages ∧ okSl okGPut x.fLate
def smallGDisk (x : GDisk) : Prop := smallSl (fun s : List UInt8 => s.length ≤ 1048576) x.fPages ∧ smallSl smallGPut x.fLate
def szGDisk (x : GDisk) (left : Int) : Int := chain [fun l => szSl szTx x.fPages l, fun l => szSl szGPut x.fLate l] left
theorem tells_GDisk : Tells szGDisk okGDisk smallGDisk := fun x a hk h1 h2 h3 => by
  unfold szGDisk at h3 ⊢
  obtain ⟨o0, o1⟩ := hk
  obtain ⟨s0, p0, q0, n0, e0⟩ := tells_step (tells_sl tells_tx) (g := fun x : GDisk => x.fPages) (x := x) o0 h1 h2 h3
  rw [e0]
  obtain ⟨s1, p1, q1, n1, e1⟩ := tells_step (tells_sl tells_GPut) (g := fun x : GDisk => x.fLate) (x := x) o1 p0 (by omega) n0
  rw [e1]
  rw [chain_nil]
  exact ⟨by omega, s0, s1⟩

/-! Field -/
structure GField where
  fName : List UInt8
  fKind : Int
  deriving DecidableEq, Inhabited
def GField.cells (x : GField) : List D := [.str x.fName, .int .i64 x.fKind]
def GField.zero : GField := ⟨[], 0⟩
def GFieldS (l : List GField) : List (List D) := l.map GField.cells
theorem GField.cells_eq {p : GField} : p.cells = [.str p.fName, .int .i64 p.fKind] := rfl
theorem GField.cells_len {p : GField} : p.cells.length = 2 := rfl
theorem GFieldS_length {l : List GField} : (GFieldS l).length = l.length := by simp [GFieldS]
theorem lget_GFieldS {l : List GField} {i : Nat} {p : GField} (h : l[i]? = some p) : lget (GFieldS l) i = [.str p.fName, .int .i64 p.fKind] := by simp [lget, GFieldS, List.getD, h, GField.cells]
theorem GFieldS_set {m : List GField} {i : Nat} {p : GField} : (GFieldS m).set i [.str p.fName, .int .i64 p.fKind] = GFieldS (m.set i p) := by simp [GFieldS, List.map_set, GField.cells]
theorem GFieldS_snoc {m : List GField} {p : GField} : GFieldS m ++ [[.str p.fName, .int .i64 p.fKind]] = GFieldS (m ++ [p]) := by simp [GFieldS, GField.cells]
theorem GFieldS_app {m l : List GField} : GFieldS m ++ GFieldS l = GFieldS (m ++ l) := by simp [GFieldS]
theorem GFieldS_take {m : List GField} {n : Nat} : (GFieldS m).take n = GFieldS (m.take n) := by simp [GFieldS]
theorem GFieldS_drop {m : List GField} {n : Nat} : (GFieldS m).drop n = GFieldS (m.drop n) := by simp [GFieldS]
theorem GFieldS_nil : GFieldS [] = [] := rfl
theorem GFieldS_row {m : List GField} : ∀ c ∈ GFieldS m, c.length = 2 := fun c hc => by simp only [GFieldS, List.mem_map] at hc; obtain ⟨p, _, rfl⟩ := hc; rfl
theorem GFieldS_one {m : List GField} : ∀ c ∈ GFieldS m, ∀ d ∈ c, d.one = true := fun c hc d hd => by
  simp only [GFieldS, List.mem_map] at hc; obtain ⟨p, _, rfl⟩ := hc
  simp only [GField.cells, List.mem_cons, List.not_mem_nil, or_false] at hd
  rcases hd with rfl | rfl <;> rfl
theorem GFieldS_snoc2 {m : List GField} {aName : List UInt8} {aKind : Int} : GFieldS m ++ [[.str aName, .int .i64 aKind]] = GFieldS (m ++ [⟨aName, aKind⟩]) := by simp [GFieldS, GField.cells]
theorem GFieldS_set2 {m : List GField} {i : Nat} {aName : List UInt8} {aKind : Int} : (GFieldS m).set i [.str aName, .int .i64 aKind] = GFieldS (m.set i ⟨aName, aKind⟩) := by simp [GFieldS, List.map_set, GField.cells]
theorem GFieldS_lit {aName : List UInt8} {aKind : Int} : [[.str aName, .int .i64 aKind]] = GFieldS [⟨aName, aKind⟩] := by simp [GFieldS, GField.cells]
theorem GField_eta {p : GField} : (⟨p.fName, p.fKind⟩ : GField) = p := rfl
theorem GFieldS_all {m : List GField} : (GFieldS m).take m.length = GFieldS m := by rw [GFieldS_take, List.take_length]
theorem GFieldS_all1 {m : List GField} {p : GField} : (GFieldS (m ++ [p])).take (m.length + 1) = GFieldS (m ++ [p]) := by rw [GFieldS_take, List.take_of_length_le (by simp)]
theorem GFieldS_rowT {m : List GField} : (∀ c ∈ GFieldS m, c.length = 2) = True := eq_true GFieldS_row
theorem GFieldS_oneT {m : List GField} : (∀ c ∈ GFieldS m, ∀ d ∈ c, d.one = true) = True := eq_true GFieldS_one
attribute [go_sem] GFieldS_length GFieldS_snoc2 GFieldS_set2 GField_eta GFieldS_all GFieldS_all1 GFieldS_rowT GFieldS_oneT
theorem GFieldS_zero {n : Nat} : List.replicate n [D.str [], D.int .i64 0] = GFieldS (List.replicate n GField.zero) := by simp [GFieldS, GField.cells, GField.zero, ints, strs, bls]
theorem flat_GFieldS {l : List GField} {m : Nat} : FlatO (.arr m (GFieldS l)) := by
  intro e he d hd
  simp only [GFieldS, List.mem_map] at he
  obtain ⟨p, _, rfl⟩ := he
  simp only [GField.cells, List.mem_cons, List.not_mem_nil, or_false] at hd
  rcases hd with rfl | rfl <;> first | exact .str _ | exact .int _ _ | exact .bool _
def okGField (x : GField) : Prop := x.fName.length ≤ LEN
def smallGField (x : GField) : Prop := x.fName.length ≤ 1048576
def szGField (x : GField) (left : Int) : Int := chain [fun l => szTx x.fName l] left
theorem tells_GField : Tells szGField okGField smallGField := fun x a hk h1 h2 h3 => by
  unfold szGField at h3 ⊢
  have o0 := hk
  obtain ⟨s0, p0, q0, n0, e0⟩ := tells_step tells_tx (g := fun x : GField => x.fName) (x := x) o0 h1 h2 h3
  rw [e0]
  rw [chain_nil]
  exact ⟨by omega, s0⟩

/-! Value -/
structure GValue where
  fNum : Int
  fText : List UInt8
  deriving DecidableEq, Inhabited
def GValue.cells (x : GValue) : List D := [.int .i64 x.fNum, .str x.fText]
def GValue.zero : GValue := ⟨0, []⟩
def GValueS (l : List GValue) : List (List D) := l.map GValue.cells
theorem GValue.cells_eq {p : GValue} : p.cells = [.int .i64 p.fNum, .str p.fText] := rfl
theorem GValue.cells_len {p : GValue} : p.cells.length = 2 := rfl
theorem GValueS_length {l : List GValue} : (GValueS l).length = l.length := by simp [GValueS]
theorem lget_GValueS {l : List GValue} {i : Nat} {p : GValue} (h : l[i]? = some p) : lget (GValueS l) i = [.int .i64 p.fNum, .str p.fText] := by simp [lget, GValueS, List.getD, h, GValue.cells]
theorem GValueS_set {m : List GValue} {i : Nat} {p : GValue} : (GValueS m).set i [.int .i64 p.fNum, .str p.fText] = GValueS (m.set i p) := by simp [GValueS, List.map_set, GValue.cells]
theorem GValueS_snoc {m : List GValue} {p : GValue} : GValueS m ++ [[.int .i64 p.fNum, .str p.fText]] = GValueS (m ++ [p]) := by simp [GValueS, GValue.cells]
theorem GValueS_app {m l : List GValue} : GValueS m ++ GValueS l = GValueS (m ++ l) := by simp [GValueS]
theorem GValueS_take {m : List GValue} {n : Nat} : (GValueS m).take n = GValueS (m.take n) := by simp [GValueS]
theorem GValueS_drop {m : List GValue} {n : Nat} : (GValueS m).drop n = GValueS (m.drop n) := by simp [GValueS]
theorem GValueS_nil : GValueS [] = [] := rfl
theorem GValueS_row {m : List GValue} : ∀ c ∈ GValueS m, c.length = 2 := fun c hc => by simp only [GValueS, List.mem_map] at hc; obtain ⟨p, _, rfl⟩ := hc; rfl
theorem GValueS_one {m : List GValue} : ∀ c ∈ GValueS m, ∀ d ∈ c, d.one = true := fun c hc d hd => by
  simp only [GValueS, List.mem_map] at hc; obtain ⟨p, _, rfl⟩ := hc
  simp only [GValue.cells, List.mem_cons, List.not_mem_nil, or_false] at hd
  rcases hd with rfl | rfl <;> rfl
theorem GValueS_snoc2 {m : List GValue} {aNum : Int} {aText : List UInt8} : GValueS m ++ [[.int .i64 aNum, .str aText]] = GValueS (m ++ [⟨aNum, aText⟩]) := by simp [GValueS, GValue.cells]
theorem GValueS_set2 {m : List GValue} {i : Nat} {aNum : Int} {aText : List UInt8} : (GValueS m).set i [.int .i64 aNum, .str aText] = GValueS (m.set i ⟨aNum, aText⟩) := by simp [GValueS, List.map_set, GValue.cells]
theorem GValueS_lit {aNum : Int} {aText : List UInt8} : [[.int .i64 aNum, .str aText]] = GValueS [⟨aNum, aText⟩] := by simp [GValueS, GValue.cells]
theorem GValue_eta {p : GValue} : (⟨p.fNum, p.fText⟩ : GValue) = p := rfl
theorem GValueS_all {m : List GValue} : (GValueS m).take m.length = GValueS m := by rw [GValueS_take, List.take_length]
theorem GValueS_all1 {m : List GValue} {p : GValue} : (GValueS (m ++ [p])).take (m.length + 1) = GValueS (m ++ [p]) := by rw [GValueS_take, List.take_of_length_le (by simp)]
theorem GValueS_rowT {m : List GValue} : (∀ c ∈ GValueS m, c.length = 2) = True := eq_true GValueS_row
theorem GValueS_oneT {m : List GValue} : (∀ c ∈ GValueS m, ∀ d ∈ c, d.one = true) = True := eq_true GValueS_one
attribute [go_sem] GValueS_length GValueS_snoc2 GValueS_set2 GValue_eta GValueS_all GValueS_all1 GValueS_rowT GValueS_oneT
theorem GValueS_zero {n : Nat} : List.replicate n [D.int .i64 0, D.str []] = GValueS (List.replicate n GValue.zero) := by simp [GValueS, GValue.cells, GValue.zero, ints, strs, bls]
theorem flat_GValueS {l : List GValue} {m : Nat} : FlatO (.arr m (GValueS l)) := by
  intro e he d hd
  simp only [GValueS, List.mem_map] at he
  obtain ⟨p, _, rfl⟩ := he
  simp only [GValue.cells, List.mem_cons, List.not_mem_nil, or_false] at hd
  rcases hd with rfl | rfl <;> first | exact .str _ | exact .int _ _ | exact .bool _
def okGValue (x : GValue) : Prop := x.fText.length ≤ LEN
def smallGValue (x : GValue) : Prop := x.fText.length ≤ 1048576
def szGValue (x : GValue) (left : Int) : Int := chain [fun l => szTx x.fText l] left
theorem tells_GValue : Tells szGValue okGValue smallGValue := fun x a hk h1 h2 h3 => by
  unfold szGValue at h3 ⊢
  have o0 := hk
  obtain ⟨s0, p0, q0, n0, e0⟩ := tells_step tells_tx (g := fun x : GValue => x.fText) (x := x) o0 h1 h2 h3
  rw [e0]
  rw [chain_nil]
  exact ⟨by omega, s0⟩

/-! Node -/
structure GNode where
  fLeaf : Bool
  fKeys : List (List UInt8)
  fVals : List (List UInt8)
  fKids : List Int
  deriving DecidableEq, Inhabited
def GNode.cells (x : GNode) : List D := [.bool x.fLeaf, .sl (strs x.fKeys), .sl (strs x.fVals), .sl (ints x.fKids)]
def GNode.zero : GNode := ⟨false, [], [], []⟩
def GNodeS (l : List GNode) : List (List D) := l.map GNode.cells
theorem GNode.cells_eq {p : GNode} : p.cells = [.bool p.fLeaf, .sl (strs p.fKeys), .sl (strs p.fVals), .sl (ints p.fKids)] := rfl
theorem GNode.cells_len {p : GNode} : p.cells.length = 4 := rfl
theorem GNodeS_length {l : List GNode} : (GNodeS l).length = l.length := by simp [GNodeS]
theorem lget_GNodeS {l : List GNode} {i : Nat} {p : GNode} (h : l[i]? = some p) : lget (GNodeS l) i = [.bool p.fLeaf, .sl (strs p.fKeys), .sl (strs p.fVals), .sl (ints p.fKids)] := by simp [lget, GNodeS, List.getD, h, GNode.cells]
theorem GNodeS_set {m : List GNode} {i : Nat} {p : GNode} : (GNodeS m).set i [.bool p.fLeaf, .sl (strs p.fKeys), .sl (strs p.fVals), .sl (ints p.fKids)] = GNodeS (m.set i p) := by simp [GNodeS, List.map_set, GNode.cells]
theorem GNodeS_snoc {m : List GNode} {p : GNode} : GNodeS m ++ [[.bool p.fLeaf, .sl (strs p.fKeys), .sl (strs p.fVals), .sl (ints p.fKids)]] = GNodeS (m ++ [p]) := by simp [GNodeS, GNode.cells]
theorem GNodeS_app {m l : List GNode} : GNodeS m ++ GNodeS l = GNodeS (m ++ l) := by simp [GNodeS]
theorem GNodeS_take {m : List GNode} {n : Nat} : (GNodeS m).take n = GNodeS (m.take n) := by simp [GNodeS]
theorem GNodeS_drop {m : List GNode} {n : Nat} : (GNodeS m).drop n = GNodeS (m.drop n) := by simp [GNodeS]
theorem GNodeS_nil : GNodeS [] = [] := rfl
theorem GNodeS_row {m : List GNode} : ∀ c ∈ GNodeS m, c.length = 4 := fun c hc => by simp only [GNodeS, List.mem_map] at hc; obtain ⟨p, _, rfl⟩ := hc; rfl
theorem GNodeS_one {m : List GNode} : ∀ c ∈ GNodeS m, ∀ d ∈ c, d.one = true := fun c hc d hd => by
  simp only [GNodeS, List.mem_map] at hc; obtain ⟨p, _, rfl⟩ := hc
  simp only [GNode.cells, List.mem_cons, List.not_mem_nil, or_false] at hd
  rcases hd with rfl | rfl | rfl | rfl <;> rfl
theorem GNodeS_snoc2 {m : List GNode} {aLeaf : Bool} {aKeys : List (List UInt8)} {aVals : List (List UInt8)} {aKids : List Int} : GNodeS m ++ [[.bool aLeaf, .sl (strs aKeys), .sl (strs aVals), .sl (ints aKids)]] = GNodeS (m ++ [⟨aLeaf, aKeys, aVals, aKids⟩]) := by simp [GNodeS, GNode.cells]
theorem GNodeS_set2 {m : List GNode} {i : Nat} {aLeaf : Bool} {aKeys : List (List UInt8)} {aVals : List (List UInt8)} {aKids : List Int} : (GNodeS m).set i [.bool aLeaf, .sl (strs aKeys), .sl (strs aVals), .sl (ints aKids)] = GNodeS (m.set i ⟨aLeaf, aKeys, aVals, aKids⟩) := by simp [GNodeS, List.map_set, GNode.cells]
theorem GNodeS_lit {aLeaf : Bool} {aKeys : List (List UInt8)} {aVals : List (List UInt8)} {aKids : List Int} : [[.bool aLeaf, .sl (strs aKeys), .sl (strs aVals), .sl (ints aKids)]] = GNodeS [⟨aLeaf, aKeys, aVals, aKids⟩] := by simp [GNodeS, GNode.cells]
theorem GNode_eta {p : GNode} : (⟨p.fLeaf, p.fKeys, p.fVals, p.fKids⟩ : GNode) = p := rfl
theorem GNodeS_all {m : List GNode} : (GNodeS m).take m.length = GNodeS m := by rw [GNodeS_take, List.take_length]
theorem GNodeS_all1 {m : List GNode} {p : GNode} : (GNodeS (m ++ [p])).take (m.length + 1) = GNodeS (m ++ [p]) := by rw [GNodeS_take, List.take_of_length_le (by simp)]
theorem GNodeS_rowT {m : List GNode} : (∀ c ∈ GNodeS m, c.length = 4) = True := eq_true GNodeS_row
theorem GNodeS_oneT {m : List GNode} : (∀ c ∈ GNodeS m, ∀ d ∈ c, d.one = true) = True := eq_true GNodeS_one
attribute [go_sem] GNodeS_length GNodeS_snoc2 GNodeS_set2 GNode_eta GNodeS_all GNodeS_all1 GNodeS_rowT GNodeS_oneT
theorem GNodeS_zero {n : Nat} : List.replicate n [D.bool false, D.sl [], D.sl [], D.sl []] = GNodeS (List.replicate n GNode.zero) := by simp [GNodeS, GNode.cells, GNode.zero, ints, strs, bls]
def okGNode (x : GNode) : Prop := okSl (fun s : List UInt8 => s.length ≤ LEN) x.fKeys ∧ okSl (fun s : List UInt8 => s.length ≤ LEN) x.fVals ∧ x.fKids.length ≤ LEN
def smallGNode (x : GNode) : Prop := smallSl (fun s : List UInt8 => s.length ≤ 1048576) x.fKeys ∧ smallSl (fun s : List UInt8 => s.length ≤ 1048576) x.fVals ∧ x.fKids.length ≤ 1048576
def szGNode (x : GNode) (left : Int) : Int := chain [fun l => szSl szTx x.fKeys l, fun l => szSl szTx x.fVals l, fun l => szFl x.fKids l] left
theorem tells_GNode : Tells szGNode okGNode smallGNode := fun x a hk h1 h2 h3 => by
  unfold szGNode at h3 ⊢
  obtain ⟨o0, o1, o2⟩ := hk
  obtain ⟨s0, p0, q0, n0, e0⟩ := tells_step (tells_sl tells_tx) (g := fun x : GNode => x.fKeys) (x := x) o0 h1 h2 h3
  rw [e0]
  obtain ⟨s1, p1, q1, n1, e1⟩ := tells_step (tells_sl tells_tx) (g := fun x : GNode => x.fVals) (x := x) o1 p0 (by omega) n0
  rw [e1]
  obtain ⟨s2, p2, q2, n2, e2⟩ := tells_step tells_fl (g := fun x : GNode => x.fKids) (x := x) o2 p1 (by omega) n1
  rw [e2]
  rw [chain_nil]
  exact ⟨by omega, s0, s1, s2⟩

/-! Free -/
structure GFree where
  fTx : Int
  fPages : List Int
  deriving DecidableEq, Inhabited
def GFree.cells (x : GFree) : List D := [.int .i64 x.fTx, .sl (ints x.fPages)]
def GFree.zero : GFree := ⟨0, []⟩
def GFreeS (l : List GFree) : List (List D) := l.map GFree.cells
theorem GFree.cells_eq {p : GFree} : p.cells = [.int .i64 p.fTx, .sl (ints p.fPages)] := rfl
theorem GFree.cells_len {p : GFree} : p.cells.length = 2 := rfl
theorem GFreeS_length {l : List GFree} : (GFreeS l).length = l.length := by simp [GFreeS]
theorem lget_GFreeS {l : List GFree} {i : Nat} {p : GFree} (h : l[i]? = some p) : lget (GFreeS l) i = [.int .i64 p.fTx, .sl (ints p.fPages)] := by simp [lget, GFreeS, List.getD, h, GFree.cells]
theorem GFreeS_set {m : List GFree} {i : Nat} {p : GFree} : (GFreeS m).set i [.int .i64 p.fTx, .sl (ints p.fPages)] = GFreeS (m.set i p) := by simp [GFreeS, List.map_set, GFree.cells]
theorem GFreeS_snoc {m : List GFree} {p : GFree} : GFreeS m ++ [[.int .i64 p.fTx, .sl (ints p.fPages)]] = GFreeS (m ++ [p]) := by simp [GFreeS, GFree.cells]
theorem GFreeS_app {m l : List GFree} : GFreeS m ++ GFreeS l = GFreeS (m ++ l) := by simp [GFreeS]
theorem GFreeS_take {m : List GFree} {n : Nat} : (GFreeS m).take n = GFreeS (m.take n) := by simp [GFreeS]
theorem GFreeS_drop {m : List GFree} {n : Nat} : (GFreeS m).drop n = GFreeS (m.drop n) := by simp [GFreeS]
theorem GFreeS_nil : GFreeS [] = [] := rfl
theorem GFreeS_row {m : List GFree} : ∀ c ∈ GFreeS m, c.length = 2 := fun c hc => by simp only [GFreeS, List.mem_map] at hc; obtain ⟨p, _, rfl⟩ := hc; rfl
theorem GFreeS_one {m : List GFree} : ∀ c ∈ GFreeS m, ∀ d ∈ c, d.one = true := fun c hc d hd => by
  simp only [GFreeS, List.mem_map] at hc; obtain ⟨p, _, rfl⟩ := hc
  simp only [GFree.cells, List.mem_cons, List.not_mem_nil, or_false] at hd
  rcases hd with rfl | rfl <;> rfl
theorem GFreeS_snoc2 {m : List GFree} {aTx : Int} {aPages : List Int} : GFreeS m ++ [[.int .i64 aTx, .sl (ints aPages)]] = GFreeS (m ++ [⟨aTx, aPages⟩]) := by simp [GFreeS, GFree.cells]
theorem GFreeS_set2 {m : List GFree} {i : Nat} {aTx : Int} {aPages : List Int} : (GFreeS m).set i [.int .i64 aTx, .sl (ints aPages)] = GFreeS (m.set i ⟨aTx, aPages⟩) := by simp [GFreeS, List.map_set, GFree.cells]
theorem GFreeS_lit {aTx : Int} {aPages : List Int} : [[.int .i64 aTx, .sl (ints aPages)]] = GFreeS [⟨aTx, aPages⟩] := by simp [GFreeS, GFree.cells]
theorem GFree_eta {p : GFree} : (⟨p.fTx, p.fPages⟩ : GFree) = p := rfl
theorem GFreeS_all {m : List GFree} : (GFreeS m).take m.length = GFreeS m := by rw [GFreeS_take, List.take_length]
theorem GFreeS_all1 {m : List GFree} {p : GFree} : (GFreeS (m ++ [p])).take (m.length + 1) = GFreeS (m ++ [p]) := by rw [GFreeS_take, List.take_of_length_le (by simp)]
theorem GFreeS_rowT {m : List GFree} : (∀ c ∈ GFreeS m, c.length = 2) = True := eq_true GFreeS_row
theorem GFreeS_oneT {m : List GFree} : (∀ c ∈ GFreeS m, ∀ d ∈ c, d.one = true) = True := eq_true GFreeS_one
attribute [go_sem] GFreeS_length GFreeS_snoc2 GFreeS_set2 GFree_eta GFreeS_all GFreeS_all1 GFreeS_rowT GFreeS_oneT
theorem GFreeS_zero {n : Nat} : List.replicate n [D.int .i64 0, D.sl []] = GFreeS (List.replicate n GFree.zero) := by simp [GFreeS, GFree.cells, GFree.zero, ints, strs, bls]
def okGFree (x : GFree) : Prop := x.fPages.length ≤ LEN
def smallGFree (x : GFree) : Prop := x.fPages.length ≤ 1048576
def szGFree (x : GFree) (left : Int) : Int := chain [fun l => szFl x.fPages l] left
theorem tells_GFree : Tells szGFree okGFree smallGFree := fun x a hk h1 h2 h3 => by
  unfold szGFree at h3 ⊢
  have o0 := hk
  obtain ⟨s0, p0, q0, n0, e0⟩ := tells_step tells_fl (g := fun x : GFree => x.fPages) (x := x) o0 h1 h2 h3
  rw [e0]
  rw [chain_nil]
  exact ⟨by omega, s0⟩

/-! Meta -/
structure GMeta where
  fTx : Int
  fRoot : Int
  fNext : Int
  fFrees : List GFree
  deriving DecidableEq, Inhabited
def GMeta.cells (x : GMeta) : List D := [.int .i64 x.fTx, .int .i64 x.fRoot, .int .i64 x.fNext, .sl (GFreeS x.fFrees)]
def GMeta.zero : GMeta := ⟨0, 0, 0, []⟩
def GMetaS (l : List GMeta) : List (List D) := l.map GMeta.cells
theorem GMeta.cells_eq {p : GMeta} : p.cells = [.int .i64 p.fTx, .int .i64 p.fRoot, .int .i64 p.fNext, .sl (GFreeS p.fFrees)] := rfl
theorem GMeta.cells_len {p : GMeta} : p.cells.length = 4 := rfl
theorem GMetaS_length {l : List GMeta} : (GMetaS l).length = l.length := by simp [GMetaS]
theorem lget_GMetaS {l : List GMeta} {i : Nat} {p : GMeta} (h : l[i]? = some p) : lget (GMetaS l) i = [.int .i64 p.fTx, .int .i64 p.fRoot, .int .i64 p.fNext, .sl (GFreeS p.fFrees)] := by simp [lget, GMetaS, List.getD, h, GMeta.cells]
theorem GMetaS_set {m : List GMeta} {i : Nat} {p : GMeta} : (GMetaS m).set i [.int .i64 p.fTx, .int .i64 p.fRoot, .int .i64 p.fNext, .sl (GFreeS p.fFrees)] = GMetaS (m.set i p) := by simp [GMetaS, List.map_set, GMeta.cells]
theorem GMetaS_snoc {m : List GMeta} {p : GMeta} : GMetaS m ++ [[.int .i64 p.fTx, .int .i64 p.fRoot, .int .i64 p.fNext, .sl (GFreeS p.fFrees)]] = GMetaS (m ++ [p]) := by simp [GMetaS, GMeta.cells]
theorem GMetaS_app {m l : List GMeta} : GMetaS m ++ GMetaS l = GMetaS (m ++ l) := by simp [GMetaS]
theorem GMetaS_take {m : List GMeta} {n : Nat} : (GMetaS m).take n = GMetaS (m.take n) := by simp [GMetaS]
theorem GMetaS_drop {m : List GMeta} {n : Nat} : (GMetaS m).drop n = GMetaS (m.drop n) := by simp [GMetaS]
theorem GMetaS_nil : GMetaS [] = [] := rfl
theorem GMetaS_row {m : List GMeta} : ∀ c ∈ GMetaS m, c.length = 4 := fun c hc => by simp only [GMetaS, List.mem_map] at hc; obtain ⟨p, _, rfl⟩ := hc; rfl
theorem GMetaS_one {m : List GMeta} : ∀ c ∈ GMetaS m, ∀ d ∈ c, d.one = true := fun c hc d hd => by
  simp only [GMetaS, List.mem_map] at hc; obtain ⟨p, _, rfl⟩ := hc
  simp only [GMeta.cells, List.mem_cons, List.not_mem_nil, or_false] at hd
  rcases hd with rfl | rfl | rfl | rfl <;> rfl
theorem GMetaS_snoc2 {m : List GMeta} {aTx : Int} {aRoot : Int} {aNext : Int} {aFrees : List GFree} : GMetaS m ++ [[.int .i64 aTx, .int .i64 aRoot, .int .i64 aNext, .sl (GFreeS aFrees)]] = GMetaS (m ++ [⟨aTx, aRoot, aNext, aFrees⟩]) := by simp [GMetaS, GMeta.cells]
theorem GMetaS_set2 {m : List GMeta} {i : Nat} {aTx : Int} {aRoot : Int} {aNext : Int} {aFrees : List GFree} : (GMetaS m).set i [.int .i64 aTx, .int .i64 aRoot, .int .i64 aNext, .sl (GFreeS aFrees)] = GMetaS (m.set i ⟨aTx, aRoot, aNext, aFrees⟩) := by simp [GMetaS, List.map_set, GMeta.cells]
theorem GMetaS_lit {aTx : Int} {aRoot : Int} {aNext : Int} {aFrees : List GFree} : [[.int .i64 aTx, .int .i64 aRoot, .int .i64 aNext, .sl (GFreeS aFrees)]] = GMetaS [⟨aTx, aRoot, aNext, aFrees⟩] := by simp [GMetaS, GMeta.cells]
theorem GMeta_eta {p : GMeta} : (⟨p.fTx, p.fRoot, p.fNext, p.fFrees⟩ : GMeta) = p := rfl
theorem GMetaS_all {m : List GMeta} : (GMetaS m).take m.length = GMetaS m := by rw [GMetaS_take, List.take_length]
theorem GMetaS_all1 {m : List GMeta} {p : GMeta} : (GMetaS (m ++ [p])).take (m.length + 1) = GMetaS (m ++ [p]) := by rw [GMetaS_take, List.take_of_length_le (by simp)]
theorem GMetaS_rowT {m : List GMeta} : (∀ c ∈ GMetaS m, c.length = 4) = True := eq_true GMetaS_row
theorem GMetaS_oneT {m : List GMeta} : (∀ c ∈ GMetaS m, ∀ d ∈ c, d.one = true) = True := eq_true GMetaS_one
attribute [go_sem] GMetaS_length GMetaS_snoc2 GMetaS_set2 GMeta_eta GMetaS_all GMetaS_all1 GMetaS_rowT GMetaS_oneT
theorem GMetaS_zero {n : Nat} : List.replicate n [D.int .i64 0, D.int .i64 0, D.int .i64 0, D.sl []] = GMetaS (List.replicate n GMeta.zero) := by simp [GMetaS, GMeta.cells, GMeta.zero, ints, strs, bls, GFreeS]
def okGMeta (x : GMeta) : Prop := okSl okGFree x.fFrees
def smallGMeta (x : GMeta) : Prop := smallSl smallGFree x.fFrees
def szGMeta (x : GMeta) (left : Int) : Int := chain [fun l => szSl szGFree x.fFrees l] left
theorem tells_GMeta : Tells szGMeta okGMeta smallGMeta := fun x a hk h1 h2 h3 => by
  unfold szGMeta at h3 ⊢
  have o0 := hk
  obtain ⟨s0, p0, q0, n0, e0⟩ := tells_step (tells_sl tells_GFree) (g := fun x : GMeta => x.fFrees) (x := x) o0 h1 h2 h3
  rw [e0]
  rw [chain_nil]
  exact ⟨by omega, s0⟩

/-! Work -/
structure GWork where
  fDisk : GDisk
  fNext : Int
  fUsable : List Int
  fGone : List Int
  fFresh : List Int
  deriving DecidableEq, Inhabited
def GWork.cells (x : GWork) : List D := [.sl (strs x.fDisk.fPages), .sl (GPutS x.fDisk.fLate), .int .i64 x.fNext, .sl (ints x.fUsable), .sl (ints x.fGone), .sl (ints x.fFresh)]
def GWork.zero : GWork := ⟨GDisk.zero, 0, [], [], []⟩
def GWorkS (l : List GWork) : List (List D) := l.map GWork.cells
theorem GWork.cells_eq {p : GWork} : p.cells = [.sl (strs p.fDisk.fPages), .sl (GPutS p.fDisk.fLate), .int .i64 p.fNext, .sl (ints p.fUsable), .sl (ints p.fGone), .sl (ints p.fFresh)] := rfl
theorem GWork.cells_len {p : GWork} : p.cells.length = 6 := rfl
theorem GWorkS_length {l : List GWork} : (GWorkS l).length = l.length := by simp [GWorkS]
theorem lget_GWorkS {l : List GWork} {i : Nat} {p : GWork} (h : l[i]? = some p) : lget (GWorkS l) i = [.sl (strs p.fDisk.fPages), .sl (GPutS p.fDisk.fLate), .int .i64 p.fNext, .sl (ints p.fUsable), .sl (ints p.fGone), .sl (ints p.fFresh)] := by simp [lget, GWorkS, List.getD, h, GWork.cells]
theorem GWorkS_set {m : List GWork} {i : Nat} {p : GWork} : (GWorkS m).set i [.sl (strs p.fDisk.fPages), .sl (GPutS p.fDisk.fLate), .int .i64 p.fNext, .sl (ints p.fUsable), .sl (ints p.fGone), .sl (ints p.fFresh)] = GWorkS (m.set i p) := by simp [GWorkS, List.map_set, GWork.cells]
theorem GWorkS_snoc {m : List GWork} {p : GWork} : GWorkS m ++ [[.sl (strs p.fDisk.fPages), .sl (GPutS p.fDisk.fLate), .int .i64 p.fNext, .sl (ints p.fUsable), .sl (ints p.fGone), .sl (ints p.fFresh)]] = GWorkS (m ++ [p]) := by simp [GWorkS, GWork.cells]
theorem GWorkS_app {m l : List GWork} : GWorkS m ++ GWorkS l = GWorkS (m ++ l) := by simp [GWorkS]
theorem GWorkS_take {m : List GWork} {n : Nat} : (GWorkS m).take n = GWorkS (m.take n) := by simp [GWorkS]
theorem GWorkS_drop {m : List GWork} {n : Nat} : (GWorkS m).drop n = GWorkS (m.drop n) := by simp [GWorkS]
theorem GWorkS_nil : GWorkS [] = [] := rfl
theorem GWorkS_row {m : List GWork} : ∀ c ∈ GWorkS m, c.length = 6 := fun c hc => by simp only [GWorkS, List.mem_map] at hc; obtain ⟨p, _, rfl⟩ := hc; rfl
theorem GWorkS_one {m : List GWork} : ∀ c ∈ GWorkS m, ∀ d ∈ c, d.one = true := fun c hc d hd => by
  simp only [GWorkS, List.mem_map] at hc; obtain ⟨p, _, rfl⟩ := hc
  simp only [GWork.cells, List.mem_cons, List.not_mem_nil, or_false] at hd
  rcases hd with rfl | rfl | rfl | rfl | rfl | rfl <;> rfl
theorem GWorkS_snoc2 {m : List GWork} {aDiskPages : List (List UInt8)} {aDiskLate : List GPut} {aNext : Int} {aUsable : List Int} {aGone : List Int} {aFresh : List Int} : GWorkS m ++ [[.sl (strs aDiskPages), .sl (GPutS aDiskLate), .int .i64 aNext, .sl (ints aUsable), .sl (ints aGone), .sl (ints aFresh)]] = GWorkS (m ++ [⟨⟨aDiskPages, aDiskLate⟩, aNext, aUsable, aGone, aFresh⟩]) := by simp [GWorkS, GWork.cells]
theorem GWorkS_set2 {m : List GWork} {i : Nat} {aDiskPages : List (List UInt8)} {aDiskLate : List GPut} {aNext : Int} {aUsable : List Int} {aGone : List Int} {aFresh : List Int} : (GWorkS m).set i [.sl (strs aDiskPages), .sl (GPutS aDiskLate), .int .i64 aNext, .sl (ints aUsable), .sl (ints aGone), .sl (ints aFresh)] = GWorkS (m.set i ⟨⟨aDiskPages, aDiskLate⟩, aNext, aUsable, aGone, aFresh⟩) := by simp [GWorkS, List.map_set, GWork.cells]
theorem GWorkS_lit {aDiskPages : List (List UInt8)} {aDiskLate : List GPut} {aNext : Int} {aUsable : List Int} {aGone : List Int} {aFresh : List Int} : [[.sl (strs aDiskPages), .sl (GPutS aDiskLate), .int .i64 aNext, .sl (ints aUsable), .sl (ints aGone), .sl (ints aFresh)]] = GWorkS [⟨⟨aDiskPages, aDiskLate⟩, aNext, aUsable, aGone, aFresh⟩] := by simp [GWorkS, GWork.cells]
theorem GWork_eta {p : GWork} : (⟨⟨p.fDisk.fPages, p.fDisk.fLate⟩, p.fNext, p.fUsable, p.fGone, p.fFresh⟩ : GWork) = p := rfl
theorem GWorkS_all {m : List GWork} : (GWorkS m).take m.length = GWorkS m := by rw [GWorkS_take, List.take_length]
theorem GWorkS_all1 {m : List GWork} {p : GWork} : (GWorkS (m ++ [p])).take (m.length + 1) = GWorkS (m ++ [p]) := by rw [GWorkS_take, List.take_of_length_le (by simp)]
theorem GWorkS_rowT {m : List GWork} : (∀ c ∈ GWorkS m, c.length = 6) = True := eq_true GWorkS_row
theorem GWorkS_oneT {m : List GWork} : (∀ c ∈ GWorkS m, ∀ d ∈ c, d.one = true) = True := eq_true GWorkS_one
attribute [go_sem] GWorkS_length GWorkS_snoc2 GWorkS_set2 GWork_eta GWorkS_all GWorkS_all1 GWorkS_rowT GWorkS_oneT
theorem GWorkS_zero {n : Nat} : List.replicate n [D.sl [], D.sl [], D.int .i64 0, D.sl [], D.sl [], D.sl []] = GWorkS (List.replicate n GWork.zero) := by simp [GWorkS, GWork.cells, GWork.zero, ints, strs, bls, GDisk.zero, GPutS]
def okGWork (x : GWork) : Prop := okGDisk x.fDisk ∧ x.fUsable.length ≤ LEN ∧ x.fGone.length ≤ LEN ∧ x.fFresh.length ≤ LEN
def smallGWork (x : GWork) : Prop := smallGDisk x.fDisk ∧ x.fUsable.length ≤ 1048576 ∧ x.fGone.length ≤ 1048576 ∧ x.fFresh.length ≤ 1048576
def szGWork (x : GWork) (left : Int) : Int := chain [fun l => szGDisk x.fDisk l, fun l => szFl x.fUsable l, fun l => szFl x.fGone l, fun l => szFl x.fFresh l] left
theorem tells_GWork : Tells szGWork okGWork smallGWork := fun x a hk h1 h2 h3 => by
  unfold szGWork at h3 ⊢
  obtain ⟨o0, o1, o2, o3⟩ := hk
  obtain ⟨s0, p0, q0, n0, e0⟩ := tells_step tells_GDisk (g := fun x : GWork => x.fDisk) (x := x) o0 h1 h2 h3
  rw [e0]
  obtain ⟨s1, p1, q1, n1, e1⟩ := tells_step tells_fl (g := fun x : GWork => x.fUsable) (x := x) o1 p0 (by omega) n0
  rw [e1]
  obtain ⟨s2, p2, q2, n2, e2⟩ := tells_step tells_fl (g := fun x : GWork => x.fGone) (x := x) o2 p1 (by omega) n1
  rw [e2]
  obtain ⟨s3, p3, q3, n3, e3⟩ := tells_step tells_fl (g := fun x : GWork => x.fFresh) (x := x) o3 p2 (by omega) n2
  rw [e3]
  rw [chain_nil]
  exact ⟨by omega, s0, s1, s2, s3⟩

/-! Txn -/
structure GTxn where
  fBase : GMeta
  fWork : GWork
  fRoot : Int
  deriving DecidableEq, Inhabited
def GTxn.cells (x : GTxn) : List D := [.int .i64 x.fBase.fTx, .int .i64 x.fBase.fRoot, .int .i64 x.fBase.fNext, .sl (GFreeS x.fBase.fFrees), .sl (strs x.fWork.fDisk.fPages), .sl (GPutS x.fWork.fDisk.fLate), .int .i64 x.fWork.fNext, .sl (ints x.fWork.fUsable), .sl (ints x.fWork.fGone), .sl (ints x.fWork.fFresh), .int .i64 x.fRoot]
def GTxn.zero : GTxn := ⟨GMeta.zero, GWork.zero, 0⟩
def GTxnS (l : List GTxn) : List (List D) := l.map GTxn.cells
theorem GTxn.cells_eq {p : GTxn} : p.cells = [.int .i64 p.fBase.fTx, .int .i64 p.fBase.fRoot, .int .i64 p.fBase.fNext, .sl (GFreeS p.fBase.fFrees), .sl (strs p.fWork.fDisk.fPages), .sl (GPutS p.fWork.fDisk.fLate), .int .i64 p.fWork.fNext, .sl (ints p.fWork.fUsable), .sl (ints p.fWork.fGone), .sl (ints p.fWork.fFresh), .int .i64 p.fRoot] := rfl
theorem GTxn.cells_len {p : GTxn} : p.cells.length = 11 := rfl
theorem GTxnS_length {l : List GTxn} : (GTxnS l).length = l.length := by simp [GTxnS]
theorem lget_GTxnS {l : List GTxn} {i : Nat} {p : GTxn} (h : l[i]? = some p) : lget (GTxnS l) i = [.int .i64 p.fBase.fTx, .int .i64 p.fBase.fRoot, .int .i64 p.fBase.fNext, .sl (GFreeS p.fBase.fFrees), .sl (strs p.fWork.fDisk.fPages), .sl (GPutS p.fWork.fDisk.fLate), .int .i64 p.fWork.fNext, .sl (ints p.fWork.fUsable), .sl (ints p.fWork.fGone), .sl (ints p.fWork.fFresh), .int .i64 p.fRoot] := by simp [lget, GTxnS, List.getD, h, GTxn.cells]
theorem GTxnS_set {m : List GTxn} {i : Nat} {p : GTxn} : (GTxnS m).set i [.int .i64 p.fBase.fTx, .int .i64 p.fBase.fRoot, .int .i64 p.fBase.fNext, .sl (GFreeS p.fBase.fFrees), .sl (strs p.fWork.fDisk.fPages), .sl (GPutS p.fWork.fDisk.fLate), .int .i64 p.fWork.fNext, .sl (ints p.fWork.fUsable), .sl (ints p.fWork.fGone), .sl (ints p.fWork.fFresh), .int .i64 p.fRoot] = GTxnS (m.set i p) := by simp [GTxnS, List.map_set, GTxn.cells]
theorem GTxnS_snoc {m : List GTxn} {p : GTxn} : GTxnS m ++ [[.int .i64 p.fBase.fTx, .int .i64 p.fBase.fRoot, .int .i64 p.fBase.fNext, .sl (GFreeS p.fBase.fFrees), .sl (strs p.fWork.fDisk.fPages), .sl (GPutS p.fWork.fDisk.fLate), .int .i64 p.fWork.fNext, .sl (ints p.fWork.fUsable), .sl (ints p.fWork.fGone), .sl (ints p.fWork.fFresh), .int .i64 p.fRoot]] = GTxnS (m ++ [p]) := by simp [GTxnS, GTxn.cells]
theorem GTxnS_app {m l : List GTxn} : GTxnS m ++ GTxnS l = GTxnS (m ++ l) := by simp [GTxnS]
theorem GTxnS_take {m : List GTxn} {n : Nat} : (GTxnS m).take n = GTxnS (m.take n) := by simp [GTxnS]
theorem GTxnS_drop {m : List GTxn} {n : Nat} : (GTxnS m).drop n = GTxnS (m.drop n) := by simp [GTxnS]
theorem GTxnS_nil : GTxnS [] = [] := rfl
theorem GTxnS_row {m : List GTxn} : ∀ c ∈ GTxnS m, c.length = 11 := fun c hc => by simp only [GTxnS, List.mem_map] at hc; obtain ⟨p, _, rfl⟩ := hc; rfl
theorem GTxnS_one {m : List GTxn} : ∀ c ∈ GTxnS m, ∀ d ∈ c, d.one = true := fun c hc d hd => by
  simp only [GTxnS, List.mem_map] at hc; obtain ⟨p, _, rfl⟩ := hc
  simp only [GTxn.cells, List.mem_cons, List.not_mem_nil, or_false] at hd
  rcases hd with rfl | rfl | rfl | rfl | rfl | rfl | rfl | rfl | rfl | rfl | rfl <;> rfl
theorem GTxnS_snoc2 {m : List GTxn} {aBaseTx : Int} {aBaseRoot : Int} {aBaseNext : Int} {aBaseFrees : List GFree} {aWorkDiskPages : List (List UInt8)} {aWorkDiskLate : List GPut} {aWorkNext : Int} {aWorkUsable : List Int} {aWorkGone : List Int} {aWorkFresh : List Int} {aRoot : Int} : GTxnS m ++ [[.int .i64 aBaseTx, .int .i64 aBaseRoot, .int .i64 aBaseNext, .sl (GFreeS aBaseFrees), .sl (strs aWorkDiskPages), .sl (GPutS aWorkDiskLate), .int .i64 aWorkNext, .sl (ints aWorkUsable), .sl (ints aWorkGone), .sl (ints aWorkFresh), .int .i64 aRoot]] = GTxnS (m ++ [⟨⟨aBaseTx, aBaseRoot, aBaseNext, aBaseFrees⟩, ⟨⟨aWorkDiskPages, aWorkDiskLate⟩, aWorkNext, aWorkUsable, aWorkGone, aWorkFresh⟩, aRoot⟩]) := by simp [GTxnS, GTxn.cells]
theorem GTxnS_set2 {m : List GTxn} {i : Nat} {aBaseTx : Int} {aBaseRoot : Int} {aBaseNext : Int} {aBaseFrees : List GFree} {aWorkDiskPages : List (List UInt8)} {aWorkDiskLate : List GPut} {aWorkNext : Int} {aWorkUsable : List Int} {aWorkGone : List Int} {aWorkFresh : List Int} {aRoot : Int} : (GTxnS m).set i [.int .i64 aBaseTx, .int .i64 aBaseRoot, .int .i64 aBaseNext, .sl (GFreeS aBaseFrees), .sl (strs aWorkDiskPages), .sl (GPutS aWorkDiskLate), .int .i64 aWorkNext, .sl (ints aWorkUsable), .sl (ints aWorkGone), .sl (ints aWorkFresh), .int .i64 aRoot] = GTxnS (m.set i ⟨⟨aBaseTx, aBaseRoot, aBaseNext, aBaseFrees⟩, ⟨⟨aWorkDiskPages, aWorkDiskLate⟩, aWorkNext, aWorkUsable, aWorkGone, aWorkFresh⟩, aRoot⟩) := by simp [GTxnS, List.map_set, GTxn.cells]
theorem GTxnS_lit {aBaseTx : Int} {aBaseRoot : Int} {aBaseNext : Int} {aBaseFrees : List GFree} {aWorkDiskPages : List (List UInt8)} {aWorkDiskLate : List GPut} {aWorkNext : Int} {aWorkUsable : List Int} {aWorkGone : List Int} {aWorkFresh : List Int} {aRoot : Int} : [[.int .i64 aBaseTx, .int .i64 aBaseRoot, .int .i64 aBaseNext, .sl (GFreeS aBaseFrees), .sl (strs aWorkDiskPages), .sl (GPutS aWorkDiskLate), .int .i64 aWorkNext, .sl (ints aWorkUsable), .sl (ints aWorkGone), .sl (ints aWorkFresh), .int .i64 aRoot]] = GTxnS [⟨⟨aBaseTx, aBaseRoot, aBaseNext, aBaseFrees⟩, ⟨⟨aWorkDiskPages, aWorkDiskLate⟩, aWorkNext, aWorkUsable, aWorkGone, aWorkFresh⟩, aRoot⟩] := by simp [GTxnS, GTxn.cells]
theorem GTxn_eta {p : GTxn} : (⟨⟨p.fBase.fTx, p.fBase.fRoot, p.fBase.fNext, p.fBase.fFrees⟩, ⟨⟨p.fWork.fDisk.fPages, p.fWork.fDisk.fLate⟩, p.fWork.fNext, p.fWork.fUsable, p.fWork.fGone, p.fWork.fFresh⟩, p.fRoot⟩ : GTxn) = p := rfl
theorem GTxnS_all {m : List GTxn} : (GTxnS m).take m.length = GTxnS m := by rw [GTxnS_take, List.take_length]
theorem GTxnS_all1 {m : List GTxn} {p : GTxn} : (GTxnS (m ++ [p])).take (m.length + 1) = GTxnS (m ++ [p]) := by rw [GTxnS_take, List.take_of_length_le (by simp)]
theorem GTxnS_rowT {m : List GTxn} : (∀ c ∈ GTxnS m, c.length = 11) = True := eq_true GTxnS_row
theorem GTxnS_oneT {m : List GTxn} : (∀ c ∈ GTxnS m, ∀ d ∈ c, d.one = true) = True := eq_true GTxnS_one
attribute [go_sem] GTxnS_length GTxnS_snoc2 GTxnS_set2 GTxn_eta GTxnS_all GTxnS_all1 GTxnS_rowT GTxnS_oneT
theorem GTxnS_zero {n : Nat} : List.replicate n [D.int .i64 0, D.int .i64 0, D.int .i64 0, D.sl [], D.sl [], D.sl [], D.int .i64 0, D.sl [], D.sl [], D.sl [], D.int .i64 0] = GTxnS (List.replicate n GTxn.zero) := by simp [GTxnS, GTxn.cells, GTxn.zero, ints, strs, bls, GMeta.zero, GWork.zero, GDisk.zero, GFreeS, GPutS]
def okGTxn (x : GTxn) : Prop := okGMeta x.fBase ∧ okGWork x.fWork
def smallGTxn (x : GTxn) : Prop := smallGMeta x.fBase ∧ smallGWork x.fWork
def szGTxn (x : GTxn) (left : Int) : Int := chain [fun l => szGMeta x.fBase l, fun l => szGWork x.fWork l] left
theorem tells_GTxn : Tells szGTxn okGTxn smallGTxn := fun x a hk h1 h2 h3 => by
  unfold szGTxn at h3 ⊢
  obtain ⟨o0, o1⟩ := hk
  obtain ⟨s0, p0, q0, n0, e0⟩ := tells_step tells_GMeta (g := fun x : GTxn => x.fBase) (x := x) o0 h1 h2 h3
  rw [e0]
  obtain ⟨s1, p1, q1, n1, e1⟩ := tells_step tells_GWork (g := fun x : GTxn => x.fWork) (x := x) o1 p0 (by omega) n0
  rw [e1]
  rw [chain_nil]
  exact ⟨by omega, s0, s1⟩

/-! Reader -/
structure GReader where
  fId : Int
  fMeta : GMeta
  deriving DecidableEq, Inhabited
def GReader.cells (x : GReader) : List D := [.int .i64 x.fId, .int .i64 x.fMeta.fTx, .int .i64 x.fMeta.fRoot, .int .i64 x.fMeta.fNext, .sl (GFreeS x.fMeta.fFrees)]
def GReader.zero : GReader := ⟨0, GMeta.zero⟩
def GReaderS (l : List GReader) : List (List D) := l.map GReader.cells
theorem GReader.cells_eq {p : GReader} : p.cells = [.int .i64 p.fId, .int .i64 p.fMeta.fTx, .int .i64 p.fMeta.fRoot, .int .i64 p.fMeta.fNext, .sl (GFreeS p.fMeta.fFrees)] := rfl
theorem GReader.cells_len {p : GReader} : p.cells.length = 5 := rfl
theorem GReaderS_length {l : List GReader} : (GReaderS l).length = l.length := by simp [GReaderS]
theorem lget_GReaderS {l : List GReader} {i : Nat} {p : GReader} (h : l[i]? = some p) : lget (GReaderS l) i = [.int .i64 p.fId, .int .i64 p.fMeta.fTx, .int .i64 p.fMeta.fRoot, .int .i64 p.fMeta.fNext, .sl (GFreeS p.fMeta.fFrees)] := by simp [lget, GReaderS, List.getD, h, GReader.cells]
theorem GReaderS_set {m : List GReader} {i : Nat} {p : GReader} : (GReaderS m).set i [.int .i64 p.fId, .int .i64 p.fMeta.fTx, .int .i64 p.fMeta.fRoot, .int .i64 p.fMeta.fNext, .sl (GFreeS p.fMeta.fFrees)] = GReaderS (m.set i p) := by simp [GReaderS, List.map_set, GReader.cells]
theorem GReaderS_snoc {m : List GReader} {p : GReader} : GReaderS m ++ [[.int .i64 p.fId, .int .i64 p.fMeta.fTx, .int .i64 p.fMeta.fRoot, .int .i64 p.fMeta.fNext, .sl (GFreeS p.fMeta.fFrees)]] = GReaderS (m ++ [p]) := by simp [GReaderS, GReader.cells]
theorem GReaderS_app {m l : List GReader} : GReaderS m ++ GReaderS l = GReaderS (m ++ l) := by simp [GReaderS]
theorem GReaderS_take {m : List GReader} {n : Nat} : (GReaderS m).take n = GReaderS (m.take n) := by simp [GReaderS]
theorem GReaderS_drop {m : List GReader} {n : Nat} : (GReaderS m).drop n = GReaderS (m.drop n) := by simp [GReaderS]
theorem GReaderS_nil : GReaderS [] = [] := rfl
theorem GReaderS_row {m : List GReader} : ∀ c ∈ GReaderS m, c.length = 5 := fun c hc => by simp only [GReaderS, List.mem_map] at hc; obtain ⟨p, _, rfl⟩ := hc; rfl
theorem GReaderS_one {m : List GReader} : ∀ c ∈ GReaderS m, ∀ d ∈ c, d.one = true := fun c hc d hd => by
  simp only [GReaderS, List.mem_map] at hc; obtain ⟨p, _, rfl⟩ := hc
  simp only [GReader.cells, List.mem_cons, List.not_mem_nil, or_false] at hd
  rcases hd with rfl | rfl | rfl | rfl | rfl <;> rfl
theorem GReaderS_snoc2 {m : List GReader} {aId : Int} {aMetaTx : Int} {aMetaRoot : Int} {aMetaNext : Int} {aMetaFrees : List GFree} : GReaderS m ++ [[.int .i64 aId, .int .i64 aMetaTx, .int .i64 aMetaRoot, .int .i64 aMetaNext, .sl (GFreeS aMetaFrees)]] = GReaderS (m ++ [⟨aId, ⟨aMetaTx, aMetaRoot, aMetaNext, aMetaFrees⟩⟩]) := by simp [GReaderS, GReader.cells]
theorem GReaderS_set2 {m : List GReader} {i : Nat} {aId : Int} {aMetaTx : Int} {aMetaRoot : Int} {aMetaNext : Int} {aMetaFrees : List GFree} : (GReaderS m).set i [.int .i64 aId, .int .i64 aMetaTx, .int .i64 aMetaRoot, .int .i64 aMetaNext, .sl (GFreeS aMetaFrees)] = GReaderS (m.set i ⟨aId, ⟨aMetaTx, aMetaRoot, aMetaNext, aMetaFrees⟩⟩) := by simp [GReaderS, List.map_set, GReader.cells]
theorem GReaderS_lit {aId : Int} {aMetaTx : Int} {aMetaRoot : Int} {aMetaNext : Int} {aMetaFrees : List GFree} : [[.int .i64 aId, .int .i64 aMetaTx, .int .i64 aMetaRoot, .int .i64 aMetaNext, .sl (GFreeS aMetaFrees)]] = GReaderS [⟨aId, ⟨aMetaTx, aMetaRoot, aMetaNext, aMetaFrees⟩⟩] := by simp [GReaderS, GReader.cells]
theorem GReader_eta {p : GReader} : (⟨p.fId, ⟨p.fMeta.fTx, p.fMeta.fRoot, p.fMeta.fNext, p.fMeta.fFrees⟩⟩ : GReader) = p := rfl
theorem GReaderS_all {m : List GReader} : (GReaderS m).take m.length = GReaderS m := by rw [GReaderS_take, List.take_length]
theorem GReaderS_all1 {m : List GReader} {p : GReader} : (GReaderS (m ++ [p])).take (m.length + 1) = GReaderS (m ++ [p]) := by rw [GReaderS_take, List.take_of_length_le (by simp)]
theorem GReaderS_rowT {m : List GReader} : (∀ c ∈ GReaderS m, c.length = 5) = True := eq_true GReaderS_row
theorem GReaderS_oneT {m : List GReader} : (∀ c ∈ GReaderS m, ∀ d ∈ c, d.one = true) = True := eq_true GReaderS_one
attribute [go_sem] GReaderS_length GReaderS_snoc2 GReaderS_set2 GReader_eta GReaderS_all GReaderS_all1 GReaderS_rowT GReaderS_oneT
theorem GReaderS_zero {n : Nat} : List.replicate n [D.int .i64 0, D.int .i64 0, D.int .i64 0, D.int .i64 0, D.sl []] = GReaderS (List.replicate n GReader.zero) := by simp [GReaderS, GReader.cells, GReader.zero, ints, strs, bls, GMeta.zero, GFreeS]
def okGReader (x : GReader) : Prop := okGMeta x.fMeta
def smallGReader (x : GReader) : Prop := smallGMeta x.fMeta
def szGReader (x : GReader) (left : Int) : Int := chain [fun l => szGMeta x.fMeta l] left
theorem tells_GReader : Tells szGReader okGReader smallGReader := fun x a hk h1 h2 h3 => by
  unfold szGReader at h3 ⊢
  have o0 := hk
  obtain ⟨s0, p0, q0, n0, e0⟩ := tells_step tells_GMeta (g := fun x : GReader => x.fMeta) (x := x) o0 h1 h2 h3
  rw [e0]
  rw [chain_nil]
  exact ⟨by omega, s0⟩

/-! Store -/
structure GStore where
  fDisk : GDisk
  fMeta : GMeta
  fReaders : List GReader
  fTxn : GTxn
  fWriting : Bool
  fFailed : Bool
  deriving DecidableEq, Inhabited
def GStore.cells (x : GStore) : List D := [.sl (strs x.fDisk.fPages), .sl (GPutS x.fDisk.fLate), .int .i64 x.fMeta.fTx, .int .i64 x.fMeta.fRoot, .int .i64 x.fMeta.fNext, .sl (GFreeS x.fMeta.fFrees), .sl (GReaderS x.fReaders), .int .i64 x.fTxn.fBase.fTx, .int .i64 x.fTxn.fBase.fRoot, .int .i64 x.fTxn.fBase.fNext, .sl (GFreeS x.fTxn.fBase.fFrees), .sl (strs x.fTxn.fWork.fDisk.fPages), .sl (GPutS x.fTxn.fWork.fDisk.fLate), .int .i64 x.fTxn.fWork.fNext, .sl (ints x.fTxn.fWork.fUsable), .sl (ints x.fTxn.fWork.fGone), .sl (ints x.fTxn.fWork.fFresh), .int .i64 x.fTxn.fRoot, .bool x.fWriting, .bool x.fFailed]
def GStore.zero : GStore := ⟨GDisk.zero, GMeta.zero, [], GTxn.zero, false, false⟩
def GStoreS (l : List GStore) : List (List D) := l.map GStore.cells
theorem GStore.cells_eq {p : GStore} : p.cells = [.sl (strs p.fDisk.fPages), .sl (GPutS p.fDisk.fLate), .int .i64 p.fMeta.fTx, .int .i64 p.fMeta.fRoot, .int .i64 p.fMeta.fNext, .sl (GFreeS p.fMeta.fFrees), .sl (GReaderS p.fReaders), .int .i64 p.fTxn.fBase.fTx, .int .i64 p.fTxn.fBase.fRoot, .int .i64 p.fTxn.fBase.fNext, .sl (GFreeS p.fTxn.fBase.fFrees), .sl (strs p.fTxn.fWork.fDisk.fPages), .sl (GPutS p.fTxn.fWork.fDisk.fLate), .int .i64 p.fTxn.fWork.fNext, .sl (ints p.fTxn.fWork.fUsable), .sl (ints p.fTxn.fWork.fGone), .sl (ints p.fTxn.fWork.fFresh), .int .i64 p.fTxn.fRoot, .bool p.fWriting, .bool p.fFailed] := rfl
theorem GStore.cells_len {p : GStore} : p.cells.length = 20 := rfl
theorem GStoreS_length {l : List GStore} : (GStoreS l).length = l.length := by simp [GStoreS]
theorem lget_GStoreS {l : List GStore} {i : Nat} {p : GStore} (h : l[i]? = some p) : lget (GStoreS l) i = [.sl (strs p.fDisk.fPages), .sl (GPutS p.fDisk.fLate), .int .i64 p.fMeta.fTx, .int .i64 p.fMeta.fRoot, .int .i64 p.fMeta.fNext, .sl (GFreeS p.fMeta.fFrees), .sl (GReaderS p.fReaders), .int .i64 p.fTxn.fBase.fTx, .int .i64 p.fTxn.fBase.fRoot, .int .i64 p.fTxn.fBase.fNext, .sl (GFreeS p.fTxn.fBase.fFrees), .sl (strs p.fTxn.fWork.fDisk.fPages), .sl (GPutS p.fTxn.fWork.fDisk.fLate), .int .i64 p.fTxn.fWork.fNext, .sl (ints p.fTxn.fWork.fUsable), .sl (ints p.fTxn.fWork.fGone), .sl (ints p.fTxn.fWork.fFresh), .int .i64 p.fTxn.fRoot, .bool p.fWriting, .bool p.fFailed] := by simp [lget, GStoreS, List.getD, h, GStore.cells]
theorem GStoreS_set {m : List GStore} {i : Nat} {p : GStore} : (GStoreS m).set i [.sl (strs p.fDisk.fPages), .sl (GPutS p.fDisk.fLate), .int .i64 p.fMeta.fTx, .int .i64 p.fMeta.fRoot, .int .i64 p.fMeta.fNext, .sl (GFreeS p.fMeta.fFrees), .sl (GReaderS p.fReaders), .int .i64 p.fTxn.fBase.fTx, .int .i64 p.fTxn.fBase.fRoot, .int .i64 p.fTxn.fBase.fNext, .sl (GFreeS p.fTxn.fBase.fFrees), .sl (strs p.fTxn.fWork.fDisk.fPages), .sl (GPutS p.fTxn.fWork.fDisk.fLate), .int .i64 p.fTxn.fWork.fNext, .sl (ints p.fTxn.fWork.fUsable), .sl (ints p.fTxn.fWork.fGone), .sl (ints p.fTxn.fWork.fFresh), .int .i64 p.fTxn.fRoot, .bool p.fWriting, .bool p.fFailed] = GStoreS (m.set i p) := by simp [GStoreS, List.map_set, GStore.cells]
theorem GStoreS_snoc {m : List GStore} {p : GStore} : GStoreS m ++ [[.sl (strs p.fDisk.fPages), .sl (GPutS p.fDisk.fLate), .int .i64 p.fMeta.fTx, .int .i64 p.fMeta.fRoot, .int .i64 p.fMeta.fNext, .sl (GFreeS p.fMeta.fFrees), .sl (GReaderS p.fReaders), .int .i64 p.fTxn.fBase.fTx, .int .i64 p.fTxn.fBase.fRoot, .int .i64 p.fTxn.fBase.fNext, .sl (GFreeS p.fTxn.fBase.fFrees), .sl (strs p.fTxn.fWork.fDisk.fPages), .sl (GPutS p.fTxn.fWork.fDisk.fLate), .int .i64 p.fTxn.fWork.fNext, .sl (ints p.fTxn.fWork.fUsable), .sl (ints p.fTxn.fWork.fGone), .sl (ints p.fTxn.fWork.fFresh), .int .i64 p.fTxn.fRoot, .bool p.fWriting, .bool p.fFailed]] = GStoreS (m ++ [p]) := by simp [GStoreS, GStore.cells]
theorem GStoreS_app {m l : List GStore} : GStoreS m ++ GStoreS l = GStoreS (m ++ l) := by simp [GStoreS]
theorem GStoreS_take {m : List GStore} {n : Nat} : (GStoreS m).take n = GStoreS (m.take n) := by simp [GStoreS]
theorem GStoreS_drop {m : List GStore} {n : Nat} : (GStoreS m).drop n = GStoreS (m.drop n) := by simp [GStoreS]
theorem GStoreS_nil : GStoreS [] = [] := rfl
theorem GStoreS_row {m : List GStore} : ∀ c ∈ GStoreS m, c.length = 20 := fun c hc => by simp only [GStoreS, List.mem_map] at hc; obtain ⟨p, _, rfl⟩ := hc; rfl
theorem GStoreS_one {m : List GStore} : ∀ c ∈ GStoreS m, ∀ d ∈ c, d.one = true := fun c hc d hd => by
  simp only [GStoreS, List.mem_map] at hc; obtain ⟨p, _, rfl⟩ := hc
  simp only [GStore.cells, List.mem_cons, List.not_mem_nil, or_false] at hd
  rcases hd with rfl | rfl | rfl | rfl | rfl | rfl | rfl | rfl | rfl | rfl | rfl | rfl | rfl | rfl | rfl | rfl | rfl | rfl | rfl | rfl <;> rfl
theorem GStoreS_snoc2 {m : List GStore} {aDiskPages : List (List UInt8)} {aDiskLate : List GPut} {aMetaTx : Int} {aMetaRoot : Int} {aMetaNext : Int} {aMetaFrees : List GFree} {aReaders : List GReader} {aTxnBaseTx : Int} {aTxnBaseRoot : Int} {aTxnBaseNext : Int} {aTxnBaseFrees : List GFree} {aTxnWorkDiskPages : List (List UInt8)} {aTxnWorkDiskLate : List GPut} {aTxnWorkNext : Int} {aTxnWorkUsable : List Int} {aTxnWorkGone : List Int} {aTxnWorkFresh : List Int} {aTxnRoot : Int} {aWriting : Bool} {aFailed : Bool} : GStoreS m ++ [[.sl (strs aDiskPages), .sl (GPutS aDiskLate), .int .i64 aMetaTx, .int .i64 aMetaRoot, .int .i64 aMetaNext, .sl (GFreeS aMetaFrees), .sl (GReaderS aReaders), .int .i64 aTxnBaseTx, .int .i64 aTxnBaseRoot, .int .i64 aTxnBaseNext, .sl (GFreeS aTxnBaseFrees), .sl (strs aTxnWorkDiskPages), .sl (GPutS aTxnWorkDiskLate), .int .i64 aTxnWorkNext, .sl (ints aTxnWorkUsable), .sl (ints aTxnWorkGone), .sl (ints aTxnWorkFresh), .int .i64 aTxnRoot, .bool aWriting, .bool aFailed]] = GStoreS (m ++ [⟨⟨aDiskPages, aDiskLate⟩, ⟨aMetaTx, aMetaRoot, aMetaNext, aMetaFrees⟩, aReaders, ⟨⟨aTxnBaseTx, aTxnBaseRoot, aTxnBaseNext, aTxnBaseFrees⟩, ⟨⟨aTxnWorkDiskPages, aTxnWorkDiskLate⟩, aTxnWorkNext, aTxnWorkUsable, aTxnWorkGone, aTxnWorkFresh⟩, aTxnRoot⟩, aWriting, aFailed⟩]) := by simp [GStoreS, GStore.cells]
theorem GStoreS_set2 {m : List GStore} {i : Nat} {aDiskPages : List (List UInt8)} {aDiskLate : List GPut} {aMetaTx : Int} {aMetaRoot : Int} {aMetaNext : Int} {aMetaFrees : List GFree} {aReaders : List GReader} {aTxnBaseTx : Int} {aTxnBaseRoot : Int} {aTxnBaseNext : Int} {aTxnBaseFrees : List GFree} {aTxnWorkDiskPages : List (List UInt8)} {aTxnWorkDiskLate : List GPut} {aTxnWorkNext : Int} {aTxnWorkUsable : List Int} {aTxnWorkGone : List Int} {aTxnWorkFresh : List Int} {aTxnRoot : Int} {aWriting : Bool} {aFailed : Bool} : (GStoreS m).set i [.sl (strs aDiskPages), .sl (GPutS aDiskLate), .int .i64 aMetaTx, .int .i64 aMetaRoot, .int .i64 aMetaNext, .sl (GFreeS aMetaFrees), .sl (GReaderS aReaders), .int .i64 aTxnBaseTx, .int .i64 aTxnBaseRoot, .int .i64 aTxnBaseNext, .sl (GFreeS aTxnBaseFrees), .sl (strs aTxnWorkDiskPages), .sl (GPutS aTxnWorkDiskLate), .int .i64 aTxnWorkNext, .sl (ints aTxnWorkUsable), .sl (ints aTxnWorkGone), .sl (ints aTxnWorkFresh), .int .i64 aTxnRoot, .bool aWriting, .bool aFailed] = GStoreS (m.set i ⟨⟨aDiskPages, aDiskLate⟩, ⟨aMetaTx, aMetaRoot, aMetaNext, aMetaFrees⟩, aReaders, ⟨⟨aTxnBaseTx, aTxnBaseRoot, aTxnBaseNext, aTxnBaseFrees⟩, ⟨⟨aTxnWorkDiskPages, aTxnWorkDiskLate⟩, aTxnWorkNext, aTxnWorkUsable, aTxnWorkGone, aTxnWorkFresh⟩, aTxnRoot⟩, aWriting, aFailed⟩) := by simp [GStoreS, List.map_set, GStore.cells]
theorem GStoreS_lit {aDiskPages : List (List UInt8)} {aDiskLate : List GPut} {aMetaTx : Int} {aMetaRoot : Int} {aMetaNext : Int} {aMetaFrees : List GFree} {aReaders : List GReader} {aTxnBaseTx : Int} {aTxnBaseRoot : Int} {aTxnBaseNext : Int} {aTxnBaseFrees : List GFree} {aTxnWorkDiskPages : List (List UInt8)} {aTxnWorkDiskLate : List GPut} {aTxnWorkNext : Int} {aTxnWorkUsable : List Int} {aTxnWorkGone : List Int} {aTxnWorkFresh : List Int} {aTxnRoot : Int} {aWriting : Bool} {aFailed : Bool} : [[.sl (strs aDiskPages), .sl (GPutS aDiskLate), .int .i64 aMetaTx, .int .i64 aMetaRoot, .int .i64 aMetaNext, .sl (GFreeS aMetaFrees), .sl (GReaderS aReaders), .int .i64 aTxnBaseTx, .int .i64 aTxnBaseRoot, .int .i64 aTxnBaseNext, .sl (GFreeS aTxnBaseFrees), .sl (strs aTxnWorkDiskPages), .sl (GPutS aTxnWorkDiskLate), .int .i64 aTxnWorkNext, .sl (ints aTxnWorkUsable), .sl (ints aTxnWorkGone), .sl (ints aTxnWorkFresh), .int .i64 aTxnRoot, .bool aWriting, .bool aFailed]] = GStoreS [⟨⟨aDiskPages, aDiskLate⟩, ⟨aMetaTx, aMetaRoot, aMetaNext, aMetaFrees⟩, aReaders, ⟨⟨aTxnBaseTx, aTxnBaseRoot, aTxnBaseNext, aTxnBaseFrees⟩, ⟨⟨aTxnWorkDiskPages, aTxnWorkDiskLate⟩, aTxnWorkNext, aTxnWorkUsable, aTxnWorkGone, aTxnWorkFresh⟩, aTxnRoot⟩, aWriting, aFailed⟩] := by simp [GStoreS, GStore.cells]
theorem GStore_eta {p : GStore} : (⟨⟨p.fDisk.fPages, p.fDisk.fLate⟩, ⟨p.fMeta.fTx, p.fMeta.fRoot, p.fMeta.fNext, p.fMeta.fFrees⟩, p.fReaders, ⟨⟨p.fTxn.fBase.fTx, p.fTxn.fBase.fRoot, p.fTxn.fBase.fNext, p.fTxn.fBase.fFrees⟩, ⟨⟨p.fTxn.fWork.fDisk.fPages, p.fTxn.fWork.fDisk.fLate⟩, p.fTxn.fWork.fNext, p.fTxn.fWork.fUsable, p.fTxn.fWork.fGone, p.fTxn.fWork.fFresh⟩, p.fTxn.fRoot⟩, p.fWriting, p.fFailed⟩ : GStore) = p := rfl
theorem GStoreS_all {m : List GStore} : (GStoreS m).take m.length = GStoreS m := by rw [GStoreS_take, List.take_length]
theorem GStoreS_all1 {m : List GStore} {p : GStore} : (GStoreS (m ++ [p])).take (m.length + 1) = GStoreS (m ++ [p]) := by rw [GStoreS_take, List.take_of_length_le (by simp)]
theorem GStoreS_rowT {m : List GStore} : (∀ c ∈ GStoreS m, c.length = 20) = True := eq_true GStoreS_row
theorem GStoreS_oneT {m : List GStore} : (∀ c ∈ GStoreS m, ∀ d ∈ c, d.one = true) = True := eq_true GStoreS_one
attribute [go_sem] GStoreS_length GStoreS_snoc2 GStoreS_set2 GStore_eta GStoreS_all GStoreS_all1 GStoreS_rowT GStoreS_oneT
theorem GStoreS_zero {n : Nat} : List.replicate n [D.sl [], D.sl [], D.int .i64 0, D.int .i64 0, D.int .i64 0, D.sl [], D.sl [], D.int .i64 0, D.int .i64 0, D.int .i64 0, D.sl [], D.sl [], D.sl [], D.int .i64 0, D.sl [], D.sl [], D.sl [], D.int .i64 0, D.bool false, D.bool false] = GStoreS (List.replicate n GStore.zero) := by simp [GStoreS, GStore.cells, GStore.zero, ints, strs, bls, GDisk.zero, GMeta.zero, GTxn.zero, GWork.zero, GPutS, GFreeS, GReaderS]
def okGStore (x : GStore) : Prop := okGDisk x.fDisk ∧ okGMeta x.fMeta ∧ okSl okGReader x.fReaders ∧ okGTxn x.fTxn
def smallGStore (x : GStore) : Prop := smallGDisk x.fDisk ∧ smallGMeta x.fMeta ∧ smallSl smallGReader x.fReaders ∧ smallGTxn x.fTxn
def szGStore (x : GStore) (left : Int) : Int := chain [fun l => szGDisk x.fDisk l, fun l => szGMeta x.fMeta l, fun l => szSl szGReader x.fReaders l, fun l => szGTxn x.fTxn l] left
theorem tells_GStore : Tells szGStore okGStore smallGStore := fun x a hk h1 h2 h3 => by
  unfold szGStore at h3 ⊢
  obtain ⟨o0, o1, o2, o3⟩ := hk
  obtain ⟨s0, p0, q0, n0, e0⟩ := tells_step tells_GDisk (g := fun x : GStore => x.fDisk) (x := x) o0 h1 h2 h3
  rw [e0]
  obtain ⟨s1, p1, q1, n1, e1⟩ := tells_step tells_GMeta (g := fun x : GStore => x.fMeta) (x := x) o1 p0 (by omega) n0
  rw [e1]
  obtain ⟨s2, p2, q2, n2, e2⟩ := tells_step (tells_sl tells_GReader) (g := fun x : GStore => x.fReaders) (x := x) o2 p1 (by omega) n1
  rw [e2]
  obtain ⟨s3, p3, q3, n3, e3⟩ := tells_step tells_GTxn (g := fun x : GStore => x.fTxn) (x := x) o3 p2 (by omega) n2
  rw [e3]
  rw [chain_nil]
  exact ⟨by omega, s0, s1, s2, s3⟩

/-! Pair -/
structure GPair where
  fKey : List UInt8
  fVal : List UInt8
  deriving DecidableEq, Inhabited
def GPair.cells (x : GPair) : List D := [.str x.fKey, .str x.fVal]
def GPair.zero : GPair := ⟨[], []⟩
def GPairS (l : List GPair) : List (List D) := l.map GPair.cells
theorem GPair.cells_eq {p : GPair} : p.cells = [.str p.fKey, .str p.fVal] := rfl
theorem GPair.cells_len {p : GPair} : p.cells.length = 2 := rfl
theorem GPairS_length {l : List GPair} : (GPairS l).length = l.length := by simp [GPairS]
theorem lget_GPairS {l : List GPair} {i : Nat} {p : GPair} (h : l[i]? = some p) : lget (GPairS l) i = [.str p.fKey, .str p.fVal] := by simp [lget, GPairS, List.getD, h, GPair.cells]
theorem GPairS_set {m : List GPair} {i : Nat} {p : GPair} : (GPairS m).set i [.str p.fKey, .str p.fVal] = GPairS (m.set i p) := by simp [GPairS, List.map_set, GPair.cells]
theorem GPairS_snoc {m : List GPair} {p : GPair} : GPairS m ++ [[.str p.fKey, .str p.fVal]] = GPairS (m ++ [p]) := by simp [GPairS, GPair.cells]
theorem GPairS_app {m l : List GPair} : GPairS m ++ GPairS l = GPairS (m ++ l) := by simp [GPairS]
theorem GPairS_take {m : List GPair} {n : Nat} : (GPairS m).take n = GPairS (m.take n) := by simp [GPairS]
theorem GPairS_drop {m : List GPair} {n : Nat} : (GPairS m).drop n = GPairS (m.drop n) := by simp [GPairS]
theorem GPairS_nil : GPairS [] = [] := rfl
theorem GPairS_row {m : List GPair} : ∀ c ∈ GPairS m, c.length = 2 := fun c hc => by simp only [GPairS, List.mem_map] at hc; obtain ⟨p, _, rfl⟩ := hc; rfl
theorem GPairS_one {m : List GPair} : ∀ c ∈ GPairS m, ∀ d ∈ c, d.one = true := fun c hc d hd => by
  simp only [GPairS, List.mem_map] at hc; obtain ⟨p, _, rfl⟩ := hc
  simp only [GPair.cells, List.mem_cons, List.not_mem_nil, or_false] at hd
  rcases hd with rfl | rfl <;> rfl
theorem GPairS_snoc2 {m : List GPair} {aKey : List UInt8} {aVal : List UInt8} : GPairS m ++ [[.str aKey, .str aVal]] = GPairS (m ++ [⟨aKey, aVal⟩]) := by simp [GPairS, GPair.cells]
theorem GPairS_set2 {m : List GPair} {i : Nat} {aKey : List UInt8} {aVal : List UInt8} : (GPairS m).set i [.str aKey, .str aVal] = GPairS (m.set i ⟨aKey, aVal⟩) := by simp [GPairS, List.map_set, GPair.cells]
theorem GPairS_lit {aKey : List UInt8} {aVal : List UInt8} : [[.str aKey, .str aVal]] = GPairS [⟨aKey, aVal⟩] := by simp [GPairS, GPair.cells]
theorem GPair_eta {p : GPair} : (⟨p.fKey, p.fVal⟩ : GPair) = p := rfl
theorem GPairS_all {m : List GPair} : (GPairS m).take m.length = GPairS m := by rw [GPairS_take, List.take_length]
theorem GPairS_all1 {m : List GPair} {p : GPair} : (GPairS (m ++ [p])).take (m.length + 1) = GPairS (m ++ [p]) := by rw [GPairS_take, List.take_of_length_le (by simp)]
theorem GPairS_rowT {m : List GPair} : (∀ c ∈ GPairS m, c.length = 2) = True := eq_true GPairS_row
theorem GPairS_oneT {m : List GPair} : (∀ c ∈ GPairS m, ∀ d ∈ c, d.one = true) = True := eq_true GPairS_one
attribute [go_sem] GPairS_length GPairS_snoc2 GPairS_set2 GPair_eta GPairS_all GPairS_all1 GPairS_rowT GPairS_oneT
theorem GPairS_zero {n : Nat} : List.replicate n [D.str [], D.str []] = GPairS (List.replicate n GPair.zero) := by simp [GPairS, GPair.cells, GPair.zero, ints, strs, bls]
theorem flat_GPairS {l : List GPair} {m : Nat} : FlatO (.arr m (GPairS l)) := by
  intro e he d hd
  simp only [GPairS, List.mem_map] at he
  obtain ⟨p, _, rfl⟩ := he
  simp only [GPair.cells, List.mem_cons, List.not_mem_nil, or_false] at hd
  rcases hd with rfl | rfl <;> first | exact .str _ | exact .int _ _ | exact .bool _
def okGPair (x : GPair) : Prop := x.fKey.length ≤ LEN ∧ x.fVal.length ≤ LEN
def smallGPair (x : GPair) : Prop := x.fKey.length ≤ 1048576 ∧ x.fVal.length ≤ 1048576
def szGPair (x : GPair) (left : Int) : Int := chain [fun l => szTx x.fKey l, fun l => szTx x.fVal l] left
theorem tells_GPair : Tells szGPair okGPair smallGPair := fun x a hk h1 h2 h3 => by
  unfold szGPair at h3 ⊢
  obtain ⟨o0, o1⟩ := hk
  obtain ⟨s0, p0, q0, n0, e0⟩ := tells_step tells_tx (g := fun x : GPair => x.fKey) (x := x) o0 h1 h2 h3
  rw [e0]
  obtain ⟨s1, p1, q1, n1, e1⟩ := tells_step tells_tx (g := fun x : GPair => x.fVal) (x := x) o1 p0 (by omega) n0
  rw [e1]
  rw [chain_nil]
  exact ⟨by omega, s0, s1⟩

/-! Event -/
structure GEvent where
  fKind : Int
  fId : Int
  fKey : List UInt8
  fVal : List UInt8
  fStage : Int
  fLeft : List Bool
  fTorn : Int
  deriving DecidableEq, Inhabited
def GEvent.cells (x : GEvent) : List D := [.int .i64 x.fKind, .int .i64 x.fId, .str x.fKey, .str x.fVal, .int .i64 x.fStage, .sl (bls x.fLeft), .int .i64 x.fTorn]
def GEvent.zero : GEvent := ⟨0, 0, [], [], 0, [], 0⟩
def GEventS (l : List GEvent) : List (List D) := l.map GEvent.cells
theorem GEvent.cells_eq {p : GEvent} : p.cells = [.int .i64 p.fKind, .int .i64 p.fId, .str p.fKey, .str p.fVal, .int .i64 p.fStage, .sl (bls p.fLeft), .int .i64 p.fTorn] := rfl
theorem GEvent.cells_len {p : GEvent} : p.cells.length = 7 := rfl
theorem GEventS_length {l : List GEvent} : (GEventS l).length = l.length := by simp [GEventS]
theorem lget_GEventS {l : List GEvent} {i : Nat} {p : GEvent} (h : l[i]? = some p) : lget (GEventS l) i = [.int .i64 p.fKind, .int .i64 p.fId, .str p.fKey, .str p.fVal, .int .i64 p.fStage, .sl (bls p.fLeft), .int .i64 p.fTorn] := by simp [lget, GEventS, List.getD, h, GEvent.cells]
theorem GEventS_set {m : List GEvent} {i : Nat} {p : GEvent} : (GEventS m).set i [.int .i64 p.fKind, .int .i64 p.fId, .str p.fKey, .str p.fVal, .int .i64 p.fStage, .sl (bls p.fLeft), .int .i64 p.fTorn] = GEventS (m.set i p) := by simp [GEventS, List.map_set, GEvent.cells]
theorem GEventS_snoc {m : List GEvent} {p : GEvent} : GEventS m ++ [[.int .i64 p.fKind, .int .i64 p.fId, .str p.fKey, .str p.fVal, .int .i64 p.fStage, .sl (bls p.fLeft), .int .i64 p.fTorn]] = GEventS (m ++ [p]) := by simp [GEventS, GEvent.cells]
theorem GEventS_app {m l : List GEvent} : GEventS m ++ GEventS l = GEventS (m ++ l) := by simp [GEventS]
theorem GEventS_take {m : List GEvent} {n : Nat} : (GEventS m).take n = GEventS (m.take n) := by simp [GEventS]
theorem GEventS_drop {m : List GEvent} {n : Nat} : (GEventS m).drop n = GEventS (m.drop n) := by simp [GEventS]
theorem GEventS_nil : GEventS [] = [] := rfl
theorem GEventS_row {m : List GEvent} : ∀ c ∈ GEventS m, c.length = 7 := fun c hc => by simp only [GEventS, List.mem_map] at hc; obtain ⟨p, _, rfl⟩ := hc; rfl
theorem GEventS_one {m : List GEvent} : ∀ c ∈ GEventS m, ∀ d ∈ c, d.one = true := fun c hc d hd => by
  simp only [GEventS, List.mem_map] at hc; obtain ⟨p, _, rfl⟩ := hc
  simp only [GEvent.cells, List.mem_cons, List.not_mem_nil, or_false] at hd
  rcases hd with rfl | rfl | rfl | rfl | rfl | rfl | rfl <;> rfl
theorem GEventS_snoc2 {m : List GEvent} {aKind : Int} {aId : Int} {aKey : List UInt8} {aVal : List UInt8} {aStage : Int} {aLeft : List Bool} {aTorn : Int} : GEventS m ++ [[.int .i64 aKind, .int .i64 aId, .str aKey, .str aVal, .int .i64 aStage, .sl (bls aLeft), .int .i64 aTorn]] = GEventS (m ++ [⟨aKind, aId, aKey, aVal, aStage, aLeft, aTorn⟩]) := by simp [GEventS, GEvent.cells]
theorem GEventS_set2 {m : List GEvent} {i : Nat} {aKind : Int} {aId : Int} {aKey : List UInt8} {aVal : List UInt8} {aStage : Int} {aLeft : List Bool} {aTorn : Int} : (GEventS m).set i [.int .i64 aKind, .int .i64 aId, .str aKey, .str aVal, .int .i64 aStage, .sl (bls aLeft), .int .i64 aTorn] = GEventS (m.set i ⟨aKind, aId, aKey, aVal, aStage, aLeft, aTorn⟩) := by simp [GEventS, List.map_set, GEvent.cells]
theorem GEventS_lit {aKind : Int} {aId : Int} {aKey : List UInt8} {aVal : List UInt8} {aStage : Int} {aLeft : List Bool} {aTorn : Int} : [[.int .i64 aKind, .int .i64 aId, .str aKey, .str aVal, .int .i64 aStage, .sl (bls aLeft), .int .i64 aTorn]] = GEventS [⟨aKind, aId, aKey, aVal, aStage, aLeft, aTorn⟩] := by simp [GEventS, GEvent.cells]
theorem GEvent_eta {p : GEvent} : (⟨p.fKind, p.fId, p.fKey, p.fVal, p.fStage, p.fLeft, p.fTorn⟩ : GEvent) = p := rfl
theorem GEventS_all {m : List GEvent} : (GEventS m).take m.length = GEventS m := by rw [GEventS_take, List.take_length]
theorem GEventS_all1 {m : List GEvent} {p : GEvent} : (GEventS (m ++ [p])).take (m.length + 1) = GEventS (m ++ [p]) := by rw [GEventS_take, List.take_of_length_le (by simp)]
theorem GEventS_rowT {m : List GEvent} : (∀ c ∈ GEventS m, c.length = 7) = True := eq_true GEventS_row
theorem GEventS_oneT {m : List GEvent} : (∀ c ∈ GEventS m, ∀ d ∈ c, d.one = true) = True := eq_true GEventS_one
attribute [go_sem] GEventS_length GEventS_snoc2 GEventS_set2 GEvent_eta GEventS_all GEventS_all1 GEventS_rowT GEventS_oneT
theorem GEventS_zero {n : Nat} : List.replicate n [D.int .i64 0, D.int .i64 0, D.str [], D.str [], D.int .i64 0, D.sl [], D.int .i64 0] = GEventS (List.replicate n GEvent.zero) := by simp [GEventS, GEvent.cells, GEvent.zero, ints, strs, bls]
def okGEvent (x : GEvent) : Prop := x.fKey.length ≤ LEN ∧ x.fVal.length ≤ LEN ∧ x.fLeft.length ≤ LEN
def smallGEvent (x : GEvent) : Prop := x.fKey.length ≤ 1048576 ∧ x.fVal.length ≤ 1048576 ∧ x.fLeft.length ≤ 1048576
def szGEvent (x : GEvent) (left : Int) : Int := chain [fun l => szTx x.fKey l, fun l => szTx x.fVal l, fun l => szFl x.fLeft l] left
theorem tells_GEvent : Tells szGEvent okGEvent smallGEvent := fun x a hk h1 h2 h3 => by
  unfold szGEvent at h3 ⊢
  obtain ⟨o0, o1, o2⟩ := hk
  obtain ⟨s0, p0, q0, n0, e0⟩ := tells_step tells_tx (g := fun x : GEvent => x.fKey) (x := x) o0 h1 h2 h3
  rw [e0]
  obtain ⟨s1, p1, q1, n1, e1⟩ := tells_step tells_tx (g := fun x : GEvent => x.fVal) (x := x) o1 p0 (by omega) n0
  rw [e1]
  obtain ⟨s2, p2, q2, n2, e2⟩ := tells_step tells_fl (g := fun x : GEvent => x.fLeft) (x := x) o2 p1 (by omega) n1
  rw [e2]
  rw [chain_nil]
  exact ⟨by omega, s0, s1, s2⟩

/-! Seen -/
structure GSeen where
  fId : Int
  fPairs : List GPair
  deriving DecidableEq, Inhabited
def GSeen.cells (x : GSeen) : List D := [.int .i64 x.fId, .sl (GPairS x.fPairs)]
def GSeen.zero : GSeen := ⟨0, []⟩
def GSeenS (l : List GSeen) : List (List D) := l.map GSeen.cells
theorem GSeen.cells_eq {p : GSeen} : p.cells = [.int .i64 p.fId, .sl (GPairS p.fPairs)] := rfl
theorem GSeen.cells_len {p : GSeen} : p.cells.length = 2 := rfl
theorem GSeenS_length {l : List GSeen} : (GSeenS l).length = l.length := by simp [GSeenS]
theorem lget_GSeenS {l : List GSeen} {i : Nat} {p : GSeen} (h : l[i]? = some p) : lget (GSeenS l) i = [.int .i64 p.fId, .sl (GPairS p.fPairs)] := by simp [lget, GSeenS, List.getD, h, GSeen.cells]
theorem GSeenS_set {m : List GSeen} {i : Nat} {p : GSeen} : (GSeenS m).set i [.int .i64 p.fId, .sl (GPairS p.fPairs)] = GSeenS (m.set i p) := by simp [GSeenS, List.map_set, GSeen.cells]
theorem GSeenS_snoc {m : List GSeen} {p : GSeen} : GSeenS m ++ [[.int .i64 p.fId, .sl (GPairS p.fPairs)]] = GSeenS (m ++ [p]) := by simp [GSeenS, GSeen.cells]
theorem GSeenS_app {m l : List GSeen} : GSeenS m ++ GSeenS l = GSeenS (m ++ l) := by simp [GSeenS]
theorem GSeenS_take {m : List GSeen} {n : Nat} : (GSeenS m).take n = GSeenS (m.take n) := by simp [GSeenS]
theorem GSeenS_drop {m : List GSeen} {n : Nat} : (GSeenS m).drop n = GSeenS (m.drop n) := by simp [GSeenS]
theorem GSeenS_nil : GSeenS [] = [] := rfl
theorem GSeenS_row {m : List GSeen} : ∀ c ∈ GSeenS m, c.length = 2 := fun c hc => by simp only [GSeenS, List.mem_map] at hc; obtain ⟨p, _, rfl⟩ := hc; rfl
theorem GSeenS_one {m : List GSeen} : ∀ c ∈ GSeenS m, ∀ d ∈ c, d.one = true := fun c hc d hd => by
  simp only [GSeenS, List.mem_map] at hc; obtain ⟨p, _, rfl⟩ := hc
  simp only [GSeen.cells, List.mem_cons, List.not_mem_nil, or_false] at hd
  rcases hd with rfl | rfl <;> rfl
theorem GSeenS_snoc2 {m : List GSeen} {aId : Int} {aPairs : List GPair} : GSeenS m ++ [[.int .i64 aId, .sl (GPairS aPairs)]] = GSeenS (m ++ [⟨aId, aPairs⟩]) := by simp [GSeenS, GSeen.cells]
theorem GSeenS_set2 {m : List GSeen} {i : Nat} {aId : Int} {aPairs : List GPair} : (GSeenS m).set i [.int .i64 aId, .sl (GPairS aPairs)] = GSeenS (m.set i ⟨aId, aPairs⟩) := by simp [GSeenS, List.map_set, GSeen.cells]
theorem GSeenS_lit {aId : Int} {aPairs : List GPair} : [[.int .i64 aId, .sl (GPairS aPairs)]] = GSeenS [⟨aId, aPairs⟩] := by simp [GSeenS, GSeen.cells]
theorem GSeen_eta {p : GSeen} : (⟨p.fId, p.fPairs⟩ : GSeen) = p := rfl
theorem GSeenS_all {m : List GSeen} : (GSeenS m).take m.length = GSeenS m := by rw [GSeenS_take, List.take_length]
theorem GSeenS_all1 {m : List GSeen} {p : GSeen} : (GSeenS (m ++ [p])).take (m.length + 1) = GSeenS (m ++ [p]) := by rw [GSeenS_take, List.take_of_length_le (by simp)]
theorem GSeenS_rowT {m : List GSeen} : (∀ c ∈ GSeenS m, c.length = 2) = True := eq_true GSeenS_row
theorem GSeenS_oneT {m : List GSeen} : (∀ c ∈ GSeenS m, ∀ d ∈ c, d.one = true) = True := eq_true GSeenS_one
attribute [go_sem] GSeenS_length GSeenS_snoc2 GSeenS_set2 GSeen_eta GSeenS_all GSeenS_all1 GSeenS_rowT GSeenS_oneT
theorem GSeenS_zero {n : Nat} : List.replicate n [D.int .i64 0, D.sl []] = GSeenS (List.replicate n GSeen.zero) := by simp [GSeenS, GSeen.cells, GSeen.zero, ints, strs, bls, GPairS]
def okGSeen (x : GSeen) : Prop := okSl okGPair x.fPairs
def smallGSeen (x : GSeen) : Prop := smallSl smallGPair x.fPairs
def szGSeen (x : GSeen) (left : Int) : Int := chain [fun l => szSl szGPair x.fPairs l] left
theorem tells_GSeen : Tells szGSeen okGSeen smallGSeen := fun x a hk h1 h2 h3 => by
  unfold szGSeen at h3 ⊢
  have o0 := hk
  obtain ⟨s0, p0, q0, n0, e0⟩ := tells_step (tells_sl tells_GPair) (g := fun x : GSeen => x.fPairs) (x := x) o0 h1 h2 h3
  rw [e0]
  rw [chain_nil]
  exact ⟨by omega, s0⟩

/-! World -/
structure GWorld where
  fStore : GStore
  fModel : List GPair
  fNext : List GPair
  fSeens : List GSeen
  fCodes : List Int
  fTold : List (List UInt8)
  deriving DecidableEq, Inhabited
def GWorld.cells (x : GWorld) : List D := [.sl (strs x.fStore.fDisk.fPages), .sl (GPutS x.fStore.fDisk.fLate), .int .i64 x.fStore.fMeta.fTx, .int .i64 x.fStore.fMeta.fRoot, .int .i64 x.fStore.fMeta.fNext, .sl (GFreeS x.fStore.fMeta.fFrees), .sl (GReaderS x.fStore.fReaders), .int .i64 x.fStore.fTxn.fBase.fTx, .int .i64 x.fStore.fTxn.fBase.fRoot, .int .i64 x.fStore.fTxn.fBase.fNext, .sl (GFreeS x.fStore.fTxn.fBase.fFrees), .sl (strs x.fStore.fTxn.fWork.fDisk.fPages), .sl (GPutS x.fStore.fTxn.fWork.fDisk.fLate), .int .i64 x.fStore.fTxn.fWork.fNext, .sl (ints x.fStore.fTxn.fWork.fUsable), .sl (ints x.fStore.fTxn.fWork.fGone), .sl (ints x.fStore.fTxn.fWork.fFresh), .int .i64 x.fStore.fTxn.fRoot, .bool x.fStore.fWriting, .bool x.fStore.fFailed, .sl (GPairS x.fModel), .sl (GPairS x.fNext), .sl (GSeenS x.fSeens), .sl (ints x.fCodes), .sl (strs x.fTold)]
def GWorld.zero : GWorld := ⟨GStore.zero, [], [], [], [], []⟩
def GWorldS (l : List GWorld) : List (List D) := l.map GWorld.cells
theorem GWorld.cells_eq {p : GWorld} : p.cells = [.sl (strs p.fStore.fDisk.fPages), .sl (GPutS p.fStore.fDisk.fLate), .int .i64 p.fStore.fMeta.fTx, .int .i64 p.fStore.fMeta.fRoot, .int .i64 p.fStore.fMeta.fNext, .sl (GFreeS p.fStore.fMeta.fFrees), .sl (GReaderS p.fStore.fReaders), .int .i64 p.fStore.fTxn.fBase.fTx, .int .i64 p.fStore.fTxn.fBase.fRoot, .int .i64 p.fStore.fTxn.fBase.fNext, .sl (GFreeS p.fStore.fTxn.fBase.fFrees), .sl (strs p.fStore.fTxn.fWork.fDisk.fPages), .sl (GPutS p.fStore.fTxn.fWork.fDisk.fLate), .int .i64 p.fStore.fTxn.fWork.fNext, .sl (ints p.fStore.fTxn.fWork.fUsable), .sl (ints p.fStore.fTxn.fWork.fGone), .sl (ints p.fStore.fTxn.fWork.fFresh), .int .i64 p.fStore.fTxn.fRoot, .bool p.fStore.fWriting, .bool p.fStore.fFailed, .sl (GPairS p.fModel), .sl (GPairS p.fNext), .sl (GSeenS p.fSeens), .sl (ints p.fCodes), .sl (strs p.fTold)] := rfl
theorem GWorld.cells_len {p : GWorld} : p.cells.length = 25 := rfl
theorem GWorldS_length {l : List GWorld} : (GWorldS l).length = l.length := by simp [GWorldS]
theorem lget_GWorldS {l : List GWorld} {i : Nat} {p : GWorld} (h : l[i]? = some p) : lget (GWorldS l) i = [.sl (strs p.fStore.fDisk.fPages), .sl (GPutS p.fStore.fDisk.fLate), .int .i64 p.fStore.fMeta.fTx, .int .i64 p.fStore.fMeta.fRoot, .int .i64 p.fStore.fMeta.fNext, .sl (GFreeS p.fStore.fMeta.fFrees), .sl (GReaderS p.fStore.fReaders), .int .i64 p.fStore.fTxn.fBase.fTx, .int .i64 p.fStore.fTxn.fBase.fRoot, .int .i64 p.fStore.fTxn.fBase.fNext, .sl (GFreeS p.fStore.fTxn.fBase.fFrees), .sl (strs p.fStore.fTxn.fWork.fDisk.fPages), .sl (GPutS p.fStore.fTxn.fWork.fDisk.fLate), .int .i64 p.fStore.fTxn.fWork.fNext, .sl (ints p.fStore.fTxn.fWork.fUsable), .sl (ints p.fStore.fTxn.fWork.fGone), .sl (ints p.fStore.fTxn.fWork.fFresh), .int .i64 p.fStore.fTxn.fRoot, .bool p.fStore.fWriting, .bool p.fStore.fFailed, .sl (GPairS p.fModel), .sl (GPairS p.fNext), .sl (GSeenS p.fSeens), .sl (ints p.fCodes), .sl (strs p.fTold)] := by simp [lget, GWorldS, List.getD, h, GWorld.cells]
theorem GWorldS_set {m : List GWorld} {i : Nat} {p : GWorld} : (GWorldS m).set i [.sl (strs p.fStore.fDisk.fPages), .sl (GPutS p.fStore.fDisk.fLate), .int .i64 p.fStore.fMeta.fTx, .int .i64 p.fStore.fMeta.fRoot, .int .i64 p.fStore.fMeta.fNext, .sl (GFreeS p.fStore.fMeta.fFrees), .sl (GReaderS p.fStore.fReaders), .int .i64 p.fStore.fTxn.fBase.fTx, .int .i64 p.fStore.fTxn.fBase.fRoot, .int .i64 p.fStore.fTxn.fBase.fNext, .sl (GFreeS p.fStore.fTxn.fBase.fFrees), .sl (strs p.fStore.fTxn.fWork.fDisk.fPages), .sl (GPutS p.fStore.fTxn.fWork.fDisk.fLate), .int .i64 p.fStore.fTxn.fWork.fNext, .sl (ints p.fStore.fTxn.fWork.fUsable), .sl (ints p.fStore.fTxn.fWork.fGone), .sl (ints p.fStore.fTxn.fWork.fFresh), .int .i64 p.fStore.fTxn.fRoot, .bool p.fStore.fWriting, .bool p.fStore.fFailed, .sl (GPairS p.fModel), .sl (GPairS p.fNext), .sl (GSeenS p.fSeens), .sl (ints p.fCodes), .sl (strs p.fTold)] = GWorldS (m.set i p) := by simp [GWorldS, List.map_set, GWorld.cells]
theorem GWorldS_snoc {m : List GWorld} {p : GWorld} : GWorldS m ++ [[.sl (strs p.fStore.fDisk.fPages), .sl (GPutS p.fStore.fDisk.fLate), .int .i64 p.fStore.fMeta.fTx, .int .i64 p.fStore.fMeta.fRoot, .int .i64 p.fStore.fMeta.fNext, .sl (GFreeS p.fStore.fMeta.fFrees), .sl (GReaderS p.fStore.fReaders), .int .i64 p.fStore.fTxn.fBase.fTx, .int .i64 p.fStore.fTxn.fBase.fRoot, .int .i64 p.fStore.fTxn.fBase.fNext, .sl (GFreeS p.fStore.fTxn.fBase.fFrees), .sl (strs p.fStore.fTxn.fWork.fDisk.fPages), .sl (GPutS p.fStore.fTxn.fWork.fDisk.fLate), .int .i64 p.fStore.fTxn.fWork.fNext, .sl (ints p.fStore.fTxn.fWork.fUsable), .sl (ints p.fStore.fTxn.fWork.fGone), .sl (ints p.fStore.fTxn.fWork.fFresh), .int .i64 p.fStore.fTxn.fRoot, .bool p.fStore.fWriting, .bool p.fStore.fFailed, .sl (GPairS p.fModel), .sl (GPairS p.fNext), .sl (GSeenS p.fSeens), .sl (ints p.fCodes), .sl (strs p.fTold)]] = GWorldS (m ++ [p]) := by simp [GWorldS, GWorld.cells]
theorem GWorldS_app {m l : List GWorld} : GWorldS m ++ GWorldS l = GWorldS (m ++ l) := by simp [GWorldS]
theorem GWorldS_take {m : List GWorld} {n : Nat} : (GWorldS m).take n = GWorldS (m.take n) := by simp [GWorldS]
theorem GWorldS_drop {m : List GWorld} {n : Nat} : (GWorldS m).drop n = GWorldS (m.drop n) := by simp [GWorldS]
theorem GWorldS_nil : GWorldS [] = [] := rfl
theorem GWorldS_row {m : List GWorld} : ∀ c ∈ GWorldS m, c.length = 25 := fun c hc => by simp only [GWorldS, List.mem_map] at hc; obtain ⟨p, _, rfl⟩ := hc; rfl
theorem GWorldS_one {m : List GWorld} : ∀ c ∈ GWorldS m, ∀ d ∈ c, d.one = true := fun c hc d hd => by
  simp only [GWorldS, List.mem_map] at hc; obtain ⟨p, _, rfl⟩ := hc
  simp only [GWorld.cells, List.mem_cons, List.not_mem_nil, or_false] at hd
  rcases hd with rfl | rfl | rfl | rfl | rfl | rfl | rfl | rfl | rfl | rfl | rfl | rfl | rfl | rfl | rfl | rfl | rfl | rfl | rfl | rfl | rfl | rfl | rfl | rfl | rfl <;> rfl
theorem GWorldS_snoc2 {m : List GWorld} {aStoreDiskPages : List (List UInt8)} {aStoreDiskLate : List GPut} {aStoreMetaTx : Int} {aStoreMetaRoot : Int} {aStoreMetaNext : Int} {aStoreMetaFrees : List GFree} {aStoreReaders : List GReader} {aStoreTxnBaseTx : Int} {aStoreTxnBaseRoot : Int} {aStoreTxnBaseNext : Int} {aStoreTxnBaseFrees : List GFree} {aStoreTxnWorkDiskPages : List (List UInt8)} {aStoreTxnWorkDiskLate : List GPut} {aStoreTxnWorkNext : Int} {aStoreTxnWorkUsable : List Int} {aStoreTxnWorkGone : List Int} {aStoreTxnWorkFresh : List Int} {aStoreTxnRoot : Int} {aStoreWriting : Bool} {aStoreFailed : Bool} {aModel : List GPair} {aNext : List GPair} {aSeens : List GSeen} {aCodes : List Int} {aTold : List (List UInt8)} : GWorldS m ++ [[.sl (strs aStoreDiskPages), .sl (GPutS aStoreDiskLate), .int .i64 aStoreMetaTx, .int .i64 aStoreMetaRoot, .int .i64 aStoreMetaNext, .sl (GFreeS aStoreMetaFrees), .sl (GReaderS aStoreReaders), .int .i64 aStoreTxnBaseTx, .int .i64 aStoreTxnBaseRoot, .int .i64 aStoreTxnBaseNext, .sl (GFreeS aStoreTxnBaseFrees), .sl (strs aStoreTxnWorkDiskPages), .sl (GPutS aStoreTxnWorkDiskLate), .int .i64 aStoreTxnWorkNext, .sl (ints aStoreTxnWorkUsable), .sl (ints aStoreTxnWorkGone), .sl (ints aStoreTxnWorkFresh), .int .i64 aStoreTxnRoot, .bool aStoreWriting, .bool aStoreFailed, .sl (GPairS aModel), .sl (GPairS aNext), .sl (GSeenS aSeens), .sl (ints aCodes), .sl (strs aTold)]] = GWorldS (m ++ [⟨⟨⟨aStoreDiskPages, aStoreDiskLate⟩, ⟨aStoreMetaTx, aStoreMetaRoot, aStoreMetaNext, aStoreMetaFrees⟩, aStoreReaders, ⟨⟨aStoreTxnBaseTx, aStoreTxnBaseRoot, aStoreTxnBaseNext, aStoreTxnBaseFrees⟩, ⟨⟨aStoreTxnWorkDiskPages, aStoreTxnWorkDiskLate⟩, aStoreTxnWorkNext, aStoreTxnWorkUsable, aStoreTxnWorkGone, aStoreTxnWorkFresh⟩, aStoreTxnRoot⟩, aStoreWriting, aStoreFailed⟩, aModel, aNext, aSeens, aCodes, aTold⟩]) := by simp [GWorldS, GWorld.cells]
theorem GWorldS_set2 {m : List GWorld} {i : Nat} {aStoreDiskPages : List (List UInt8)} {aStoreDiskLate : List GPut} {aStoreMetaTx : Int} {aStoreMetaRoot : Int} {aStoreMetaNext : Int} {aStoreMetaFrees : List GFree} {aStoreReaders : List GReader} {aStoreTxnBaseTx : Int} {aStoreTxnBaseRoot : Int} {aStoreTxnBaseNext : Int} {aStoreTxnBaseFrees : List GFree} {aStoreTxnWorkDiskPages : List (List UInt8)} {aStoreTxnWorkDiskLate : List GPut} {aStoreTxnWorkNext : Int} {aStoreTxnWorkUsable : List Int} {aStoreTxnWorkGone : List Int} {aStoreTxnWorkFresh : List Int} {aStoreTxnRoot : Int} {aStoreWriting : Bool} {aStoreFailed : Bool} {aModel : List GPair} {aNext : List GPair} {aSeens : List GSeen} {aCodes : List Int} {aTold : List (List UInt8)} : (GWorldS m).set i [.sl (strs aStoreDiskPages), .sl (GPutS aStoreDiskLate), .int .i64 aStoreMetaTx, .int .i64 aStoreMetaRoot, .int .i64 aStoreMetaNext, .sl (GFreeS aStoreMetaFrees), .sl (GReaderS aStoreReaders), .int .i64 aStoreTxnBaseTx, .int .i64 aStoreTxnBaseRoot, .int .i64 aStoreTxnBaseNext, .sl (GFreeS aStoreTxnBaseFrees), .sl (strs aStoreTxnWorkDiskPages), .sl (GPutS aStoreTxnWorkDiskLate), .int .i64 aStoreTxnWorkNext, .sl (ints aStoreTxnWorkUsable), .sl (ints aStoreTxnWorkGone), .sl (ints aStoreTxnWorkFresh), .int .i64 aStoreTxnRoot, .bool aStoreWriting, .bool aStoreFailed, .sl (GPairS aModel), .sl (GPairS aNext), .sl (GSeenS aSeens), .sl (ints aCodes), .sl (strs aTold)] = GWorldS (m.set i ⟨⟨⟨aStoreDiskPages, aStoreDiskLate⟩, ⟨aStoreMetaTx, aStoreMetaRoot, aStoreMetaNext, aStoreMetaFrees⟩, aStoreReaders, ⟨⟨aStoreTxnBaseTx, aStoreTxnBaseRoot, aStoreTxnBaseNext, aStoreTxnBaseFrees⟩, ⟨⟨aStoreTxnWorkDiskPages, aStoreTxnWorkDiskLate⟩, aStoreTxnWorkNext, aStoreTxnWorkUsable, aStoreTxnWorkGone, aStoreTxnWorkFresh⟩, aStoreTxnRoot⟩, aStoreWriting, aStoreFailed⟩, aModel, aNext, aSeens, aCodes, aTold⟩) := by simp [GWorldS, List.map_set, GWorld.cells]
theorem GWorldS_lit {aStoreDiskPages : List (List UInt8)} {aStoreDiskLate : List GPut} {aStoreMetaTx : Int} {aStoreMetaRoot : Int} {aStoreMetaNext : Int} {aStoreMetaFrees : List GFree} {aStoreReaders : List GReader} {aStoreTxnBaseTx : Int} {aStoreTxnBaseRoot : Int} {aStoreTxnBaseNext : Int} {aStoreTxnBaseFrees : List GFree} {aStoreTxnWorkDiskPages : List (List UInt8)} {aStoreTxnWorkDiskLate : List GPut} {aStoreTxnWorkNext : Int} {aStoreTxnWorkUsable : List Int} {aStoreTxnWorkGone : List Int} {aStoreTxnWorkFresh : List Int} {aStoreTxnRoot : Int} {aStoreWriting : Bool} {aStoreFailed : Bool} {aModel : List GPair} {aNext : List GPair} {aSeens : List GSeen} {aCodes : List Int} {aTold : List (List UInt8)} : [[.sl (strs aStoreDiskPages), .sl (GPutS aStoreDiskLate), .int .i64 aStoreMetaTx, .int .i64 aStoreMetaRoot, .int .i64 aStoreMetaNext, .sl (GFreeS aStoreMetaFrees), .sl (GReaderS aStoreReaders), .int .i64 aStoreTxnBaseTx, .int .i64 aStoreTxnBaseRoot, .int .i64 aStoreTxnBaseNext, .sl (GFreeS aStoreTxnBaseFrees), .sl (strs aStoreTxnWorkDiskPages), .sl (GPutS aStoreTxnWorkDiskLate), .int .i64 aStoreTxnWorkNext, .sl (ints aStoreTxnWorkUsable), .sl (ints aStoreTxnWorkGone), .sl (ints aStoreTxnWorkFresh), .int .i64 aStoreTxnRoot, .bool aStoreWriting, .bool aStoreFailed, .sl (GPairS aModel), .sl (GPairS aNext), .sl (GSeenS aSeens), .sl (ints aCodes), .sl (strs aTold)]] = GWorldS [⟨⟨⟨aStoreDiskPages, aStoreDiskLate⟩, ⟨aStoreMetaTx, aStoreMetaRoot, aStoreMetaNext, aStoreMetaFrees⟩, aStoreReaders, ⟨⟨aStoreTxnBaseTx, aStoreTxnBaseRoot, aStoreTxnBaseNext, aStoreTxnBaseFrees⟩, ⟨⟨aStoreTxnWorkDiskPages, aStoreTxnWorkDiskLate⟩, aStoreTxnWorkNext, aStoreTxnWorkUsable, aStoreTxnWorkGone, aStoreTxnWorkFresh⟩, aStoreTxnRoot⟩, aStoreWriting, aStoreFailed⟩, aModel, aNext, aSeens, aCodes, aTold⟩] := by simp [GWorldS, GWorld.cells]
theorem GWorld_eta {p : GWorld} : (⟨⟨⟨p.fStore.fDisk.fPages, p.fStore.fDisk.fLate⟩, ⟨p.fStore.fMeta.fTx, p.fStore.fMeta.fRoot, p.fStore.fMeta.fNext, p.fStore.fMeta.fFrees⟩, p.fStore.fReaders, ⟨⟨p.fStore.fTxn.fBase.fTx, p.fStore.fTxn.fBase.fRoot, p.fStore.fTxn.fBase.fNext, p.fStore.fTxn.fBase.fFrees⟩, ⟨⟨p.fStore.fTxn.fWork.fDisk.fPages, p.fStore.fTxn.fWork.fDisk.fLate⟩, p.fStore.fTxn.fWork.fNext, p.fStore.fTxn.fWork.fUsable, p.fStore.fTxn.fWork.fGone, p.fStore.fTxn.fWork.fFresh⟩, p.fStore.fTxn.fRoot⟩, p.fStore.fWriting, p.fStore.fFailed⟩, p.fModel, p.fNext, p.fSeens, p.fCodes, p.fTold⟩ : GWorld) = p := rfl
theorem GWorldS_all {m : List GWorld} : (GWorldS m).take m.length = GWorldS m := by rw [GWorldS_take, List.take_length]
theorem GWorldS_all1 {m : List GWorld} {p : GWorld} : (GWorldS (m ++ [p])).take (m.length + 1) = GWorldS (m ++ [p]) := by rw [GWorldS_take, List.take_of_length_le (by simp)]
theorem GWorldS_rowT {m : List GWorld} : (∀ c ∈ GWorldS m, c.length = 25) = True := eq_true GWorldS_row
theorem GWorldS_oneT {m : List GWorld} : (∀ c ∈ GWorldS m, ∀ d ∈ c, d.one = true) = True := eq_true GWorldS_one
attribute [go_sem] GWorldS_length GWorldS_snoc2 GWorldS_set2 GWorld_eta GWorldS_all GWorldS_all1 GWorldS_rowT GWorldS_oneT
theorem GWorldS_zero {n : Nat} : List.replicate n [D.sl [], D.sl [], D.int .i64 0, D.int .i64 0, D.int .i64 0, D.sl [], D.sl [], D.int .i64 0, D.int .i64 0, D.int .i64 0, D.sl [], D.sl [], D.sl [], D.int .i64 0, D.sl [], D.sl [], D.sl [], D.int .i64 0, D.bool false, D.bool false, D.sl [], D.sl [], D.sl [], D.sl [], D.sl []] = GWorldS (List.replicate n GWorld.zero) := by simp [GWorldS, GWorld.cells, GWorld.zero, ints, strs, bls, GStore.zero, GDisk.zero, GMeta.zero, GTxn.zero, GWork.zero, GPutS, GFreeS, GReaderS, GPairS, GSeenS]
def okGWorld (x : GWorld) : Prop := okGStore x.fStore ∧ okSl okGPair x.fModel ∧ okSl okGPair x.fNext ∧ okSl okGSeen x.fSeens ∧ x.fCodes.length ≤ LEN ∧ okSl (fun s : List UInt8 => s.length ≤ LEN) x.fTold
def smallGWorld (x : GWorld) : Prop := smallGStore x.fStore ∧ smallSl smallGPair x.fModel ∧ smallSl smallGPair x.fNext ∧ smallSl smallGSeen x.fSeens ∧ x.fCodes.length ≤ 1048576 ∧ smallSl (fun s : List UInt8 => s.length ≤ 1048576) x.fTold
def szGWorld (x : GWorld) (left : Int) : Int := chain [fun l => szGStore x.fStore l, fun l => szSl szGPair x.fModel l, fun l => szSl szGPair x.fNext l, fun l => szSl szGSeen x.fSeens l, fun l => szFl x.fCodes l, fun l => szSl szTx x.fTold l] left
theorem tells_GWorld : Tells szGWorld okGWorld smallGWorld := fun x a hk h1 h2 h3 => by
  unfold szGWorld at h3 ⊢
  obtain ⟨o0, o1, o2, o3, o4, o5⟩ := hk
  obtain ⟨s0, p0, q0, n0, e0⟩ := tells_step tells_GStore (g := fun x : GWorld => x.fStore) (x := x) o0 h1 h2 h3
  rw [e0]
  obtain ⟨s1, p1, q1, n1, e1⟩ := tells_step (tells_sl tells_GPair) (g := fun x : GWorld => x.fModel) (x := x) o1 p0 (by omega) n0
  rw [e1]
  obtain ⟨s2, p2, q2, n2, e2⟩ := tells_step (tells_sl tells_GPair) (g := fun x : GWorld => x.fNext) (x := x) o2 p1 (by omega) n1
  rw [e2]
  obtain ⟨s3, p3, q3, n3, e3⟩ := tells_step (tells_sl tells_GSeen) (g := fun x : GWorld => x.fSeens) (x := x) o3 p2 (by omega) n2
  rw [e3]
  obtain ⟨s4, p4, q4, n4, e4⟩ := tells_step tells_fl (g := fun x : GWorld => x.fCodes) (x := x) o4 p3 (by omega) n3
  rw [e4]
  obtain ⟨s5, p5, q5, n5, e5⟩ := tells_step (tells_sl tells_tx) (g := fun x : GWorld => x.fTold) (x := x) o5 p4 (by omega) n4
  rw [e5]
  rw [chain_nil]
  exact ⟨by omega, s0, s1, s2, s3, s4, s5⟩
end Go.Rx

namespace Go.Rx
open Go
theorem bLess_irr {a : List UInt8} : bLess a a = false := by
  induction a with
  | nil => rfl
  | cons x xs ih => simp [bLess, Op.bytesLess] at *; exact ih
theorem bLess_nil {b : List UInt8} : bLess [] b = true ↔ b ≠ [] := by cases b <;> simp [bLess, Op.bytesLess]
theorem bLess_cons {a b : UInt8} {xs ys : List UInt8} : bLess (a :: xs) (b :: ys) = true ↔ a < b ∨ a = b ∧ bLess xs ys = true := by
  unfold bLess
  simp [Op.bytesLess]
  try (constructor <;> intro h <;> omega)
theorem bLess_trans : ∀ {a b c : List UInt8}, bLess a b = true → bLess b c = true → bLess a c = true
  | [], b, [], _, h => by cases b <;> simp [bLess, Op.bytesLess] at h
  | [], _, _ :: _, _, _ => bLess_nil.2 (by simp)
  | _ :: _, [], _, h, _ => by simp [bLess, Op.bytesLess] at h
  | _ :: _, _ :: _, [], _, h => by simp [bLess, Op.bytesLess] at h
  | a :: xs, b :: ys, c :: zs, h1, h2 => by
    rw [bLess_cons] at h1 h2 ⊢
    rcases h1 with h1 | ⟨rfl, h1⟩
    · rcases h2 with h2 | ⟨rfl, h2⟩
      · exact .inl (UInt8.lt_trans h1 h2)
      · exact .inl h1
    · rcases h2 with h2 | ⟨rfl, h2⟩
      · exact .inl h2
      · exact .inr ⟨rfl, bLess_trans h1 h2⟩
theorem bLess_tri {a b : List UInt8} (h1 : bLess a b = false) (h2 : bLess b a = false) : a = b := by
  have := bLess_total a b
  rw [h1, h2] at this
  simpa using this
theorem bLess_ne {a b : List UInt8} (h : bLess a b = true) : a ≠ b := fun e => by rw [e, bLess_irr] at h; cases h
end Go.Rx

namespace Go.Rx
open Go

/-! numbers in bytes -/
def varB (n : Nat) : List UInt8 :=
  if n < 128 then [UInt8.ofNat n] else UInt8.ofNat (n % 128 + 128) :: varB (n / 128)
termination_by n
decreasing_by omega

theorem varB_small {n : Nat} (h : n < 128) : varB n = [UInt8.ofNat n] := by rw [varB, if_pos h]
theorem varB_big {n : Nat} (h : ¬ n < 128) : varB n = UInt8.ofNat (n % 128 + 128) :: varB (n / 128) := by
  conv => lhs; rw [varB]
  rw [if_neg h]
theorem varB_ne {n : Nat} : varB n ≠ [] := by rw [varB]; split <;> simp

def rvGo : Nat → Nat → List UInt8 → Option (Nat × List UInt8)
  | _, _, [] => none
  | k, n, x :: l => if 5 ≤ k then none else if 127 < x.toNat then rvGo (k + 1) (n + x.toNat % 128 * 128 ^ k) l
      else if (x.toNat = 0 ∧ 0 < k) ∨ 1000000000 < n + x.toNat * 128 ^ k then none else some (n + x.toNat * 128 ^ k, l)
def rv (l : List UInt8) : Option (Nat × List UInt8) := rvGo 0 0 l

theorem toNat_of {n : Nat} (h : n < 256) : (UInt8.ofNat n).toNat = n := by simp [Nat.mod_eq_of_lt h]
theorem ofNat_to {x : UInt8} : UInt8.ofNat x.toNat = x := by simp
theorem byte_lt (x : UInt8) : x.toNat < 256 := x.toNat_lt

theorem split128 (m p : Nat) : m * p = m % 128 * p + m / 128 * (p * 128) := by
  conv => lhs; rw [← Nat.mod_add_div m 128]
  rw [Nat.add_mul, Nat.mul_comm 128 (m / 128), Nat.mul_assoc, Nat.mul_comm 128 p]

theorem pow5 {k m p v n : Nat} (hp : p = 128 ^ k) (hv : v = n + m * p) (hm : 0 < k → 0 < m) (h : v ≤ 1000000000) : k < 5 := by
  refine Decidable.byContradiction fun hk => ?_
  have h1 : 128 ^ 5 ≤ 128 ^ k := Nat.pow_le_pow_right (by omega) (by omega)
  have h2 : 1 * p ≤ m * p := Nat.mul_le_mul_right p (hm (by omega))
  have h3 : (128 : Nat) ^ 5 = 34359738368 := by decide
  omega

theorem rvGo_iff : ∀ {l : List UInt8} {k n v : Nat} {rest : List UInt8}, rvGo k n l = some (v, rest) ↔ v ≤ 1000000000 ∧ ∃ m, v = n + m * 128 ^ k ∧ l = varB m ++ rest ∧ (0 < k → 0 < m)
  | [], k, n, v, rest => by
    simp only [rvGo]
    refine ⟨fun h => (by cases h), fun h => ?_⟩
    obtain ⟨_, m, _, h2, _⟩ := h
    have := congrArg List.length h2
    have hne := List.length_pos_iff.2 (varB_ne (n := m))
    simp at this; omega
  | x :: l, k, n, v, rest => by
    have hx := byte_lt x
    simp only [rvGo]
    constructor
    · intro h
      split at h
      · cases h
      · rename_i hk
        split at h
        · rename_i hb
          obtain ⟨h1, m, h2, h3, h4⟩ := rvGo_iff.1 h
          have hm := h4 (by omega)
          refine ⟨h1, x.toNat % 128 + 128 * m, ?_, ?_, fun _ => by omega⟩
          · rw [h2, split128 (x.toNat % 128 + 128 * m), Nat.pow_succ]
            have e1 : (x.toNat % 128 + 128 * m) % 128 = x.toNat % 128 := by omega
            have e2 : (x.toNat % 128 + 128 * m) / 128 = m := by omega
            rw [e1, e2, Nat.add_assoc]
          · rw [varB_big (by omega)]
            have e1 : (x.toNat % 128 + 128 * m) % 128 + 128 = x.toNat := by omega
            have e2 : (x.toNat % 128 + 128 * m) / 128 = m := by omega
            rw [e1, e2, ofNat_to, h3]; rfl
        · rename_i hb
          split at h
          · cases h
          · rename_i hc
            simp only [Option.some.injEq, Prod.mk.injEq] at h
            obtain ⟨rfl, rfl⟩ := h
            exact ⟨by omega, x.toNat, rfl, by rw [varB_small (by omega), ofNat_to]; rfl, fun h => by omega⟩
    · rintro ⟨h1, m, h2, h3, h4⟩
      have hk := pow5 rfl h2 h4 h1
      rw [if_neg (by omega)]
      by_cases hm : m < 128
      · rw [varB_small hm] at h3
        simp only [List.cons_append, List.nil_append, List.cons.injEq] at h3
        obtain ⟨rfl, rfl⟩ := h3
        rw [toNat_of (by omega), if_neg (by omega), if_neg (by omega), h2]
      · rw [varB_big hm] at h3
        simp only [List.cons_append, List.cons.injEq] at h3
        obtain ⟨rfl, rfl⟩ := h3
        rw [toNat_of (by omega), if_pos (by omega)]
        refine rvGo_iff.2 ⟨h1, m / 128, ?_, rfl, fun _ => by omega⟩
        rw [h2, split128 m, Nat.pow_succ]
        have e1 : (m % 128 + 128) % 128 = m % 128 := by omega
        rw [e1, Nat.add_assoc]

theorem rv_iff {l : List UInt8} {v : Nat} {rest : List UInt8} : rv l = some (v, rest) ↔ v ≤ 1000000000 ∧ l = varB v ++ rest := by
  unfold rv
  rw [rvGo_iff]
  constructor
  · rintro ⟨h1, m, h2, h3, _⟩
    obtain rfl : v = m := by simpa using h2
    exact ⟨h1, h3⟩
  · rintro ⟨h1, h2⟩
    exact ⟨h1, v, by simp, h2, fun h => by omega⟩

def shortB (s : List UInt8) : List UInt8 := varB s.length ++ s
def rs (l : List UInt8) : Option (List UInt8 × List UInt8) := match rv l with
  | none => none
  | some (n, r) => if n ≤ 20000 ∧ n ≤ r.length then some (r.take n, r.drop n) else none
theorem rs_iff {l s rest : List UInt8} : rs l = some (s, rest) ↔ s.length ≤ 20000 ∧ l = shortB s ++ rest := by
  unfold rs
  constructor
  · intro h
    split at h
    · cases h
    · rename_i n r hv
      split at h
      · rename_i hn
        simp only [Option.some.injEq, Prod.mk.injEq] at h
        obtain ⟨rfl, rfl⟩ := h
        obtain ⟨_, h2⟩ := rv_iff.1 hv
        have e : (r.take n).length = n := by simp; omega
        refine ⟨by omega, ?_⟩
        rw [shortB, e, List.append_assoc, List.take_append_drop, h2]
      · cases h
  · rintro ⟨h1, rfl⟩
    have : rv (shortB s ++ rest) = some (s.length, s ++ rest) := rv_iff.2 ⟨by omega, by rw [shortB, List.append_assoc]⟩
    rw [this]
    simp only
    rw [if_pos ⟨h1, by simp⟩]
    simp

/-- What is left is an end of what there was. -/
theorem suffix_drop {α : Type} {t l r : List α} {at_ : Nat} (h : t.drop at_ = l ++ r) (ha : at_ ≤ t.length) : r = t.drop (t.length - r.length) ∧ t.length - r.length = at_ + l.length ∧ r.length ≤ t.length := by
  have hl := congrArg List.length h
  simp only [List.length_drop, List.length_append] at hl
  refine ⟨?_, by omega, by omega⟩
  have e : t.length - r.length = at_ + l.length := by omega
  rw [e, ← List.drop_drop, h, List.drop_left]

/-! readings at a place -/
def readVar (t : List UInt8) (at_ : Int) : Option (Nat × Nat) :=
  if 0 ≤ at_ ∧ at_ ≤ t.length then (rv (t.drop at_.toNat)).map fun r => (r.1, t.length - r.2.length) else none
def readShort (t : List UInt8) (at_ : Int) : Option (List UInt8 × Nat) := match readVar t at_ with
  | none => none
  | some (n, a) => if n ≤ 20000 ∧ n ≤ t.length - a then some ((t.take (a + n)).drop a, a + n) else none

theorem readVar_some {t : List UInt8} {a : Nat} {n b : Nat} (ha : a ≤ t.length) : readVar t a = some (n, b) ↔ n ≤ 1000000000 ∧ t.drop a = varB n ++ t.drop b ∧ b = a + (varB n).length ∧ b ≤ t.length := by
  unfold readVar
  rw [if_pos (by omega), Int.toNat_natCast]
  constructor
  · intro h
    cases hv : rv (t.drop a) with
    | none => rw [hv] at h; cases h
    | some r =>
      obtain ⟨m, r⟩ := r
      rw [hv] at h
      simp only [Option.map_some, Option.some.injEq, Prod.mk.injEq] at h
      obtain ⟨rfl, rfl⟩ := h
      obtain ⟨h1, h2⟩ := rv_iff.1 hv
      obtain ⟨h3, h4, h5⟩ := suffix_drop h2 ha
      exact ⟨h1, by rw [← h3]; exact h2, h4, by omega⟩
  · rintro ⟨h1, h2, h3, h4⟩
    rw [rv_iff.2 ⟨h1, h2⟩]
    simp only [Option.map_some, List.length_drop, Option.some.injEq, Prod.mk.injEq, true_and]
    omega
theorem readVar_lt {t : List UInt8} {a : Int} {n b : Nat} (h : readVar t a = some (n, b)) : n ≤ 1000000000 ∧ b ≤ t.length ∧ a < b ∧ 0 ≤ a := by
  have h0 := h
  unfold readVar at h0
  split at h0
  · rename_i hh
    obtain ⟨a', rfl⟩ := Int.eq_ofNat_of_zero_le hh.1
    obtain ⟨h1, h2, h3, h4⟩ := (readVar_some (by omega)).1 h
    have := List.length_pos_iff.2 (varB_ne (n := n))
    omega
  · cases h0

theorem readShort_some {t : List UInt8} {a : Nat} {s : List UInt8} {b : Nat} (ha : a ≤ t.length) : readShort t a = some (s, b) ↔ s.length ≤ 20000 ∧ t.drop a = shortB s ++ t.drop b ∧ b = a + (shortB s).length ∧ b ≤ t.length := by
  unfold readShort
  constructor
  · intro h
    split at h
    · cases h
    · rename_i n c hv
      obtain ⟨h1, h2, h3, h4⟩ := (readVar_some ha).1 hv
      split at h
      · rename_i hn
        simp only [Option.some.injEq, Prod.mk.injEq] at h
        obtain ⟨rfl, rfl⟩ := h
        have hl : (List.drop c (List.take (c + n) t)).length = n := by simp; omega
        refine ⟨by omega, ?_, ?_, by omega⟩
        · rw [shortB, hl, List.append_assoc, h2]
          congr 1
          rw [List.drop_take, Nat.add_sub_cancel_left, ← List.drop_drop, List.take_append_drop]
        · rw [shortB, hl, List.length_append, hl]; omega
      · cases h
  · rintro ⟨h1, h2, h3, h4⟩
    have hs : t.drop (a + (varB s.length).length) = s ++ t.drop b := by
      rw [← List.drop_drop, h2, shortB, List.append_assoc, List.drop_left]
    have hb : a + (varB s.length).length + s.length = b := by rw [h3, shortB, List.length_append]; omega
    have : readVar t a = some (s.length, a + (varB s.length).length) := (readVar_some ha).2 ⟨by omega, by rw [hs, h2, shortB, List.append_assoc], rfl, by omega⟩
    rw [this]
    simp only
    rw [if_pos (by omega)]
    simp only [Option.some.injEq, Prod.mk.injEq]
    refine ⟨?_, hb⟩
    rw [List.drop_take, Nat.add_sub_cancel_left, hs, List.take_left]
theorem readShort_lt {t : List UInt8} {a : Int} {s : List UInt8} {b : Nat} (h : readShort t a = some (s, b)) : s.length ≤ 20000 ∧ b ≤ t.length ∧ a < b ∧ 0 ≤ a := by
  unfold readShort at h
  split at h
  · cases h
  · rename_i n c hv
    obtain ⟨h1, h2, h3, h4⟩ := readVar_lt hv
    split at h
    · simp only [Option.some.injEq, Prod.mk.injEq] at h
      obtain ⟨rfl, rfl⟩ := h
      refine ⟨?_, by omega, by omega, h4⟩
      simp; omega
    · cases h

/-! sums -/
def crcBit (s : Nat) : Nat := if s % 2 = 1 then (s / 2) ^^^ 3558460437 else s / 2
def crcBits : Nat → Nat → Nat
  | 0, s => s
  | k + 1, s => crcBits k (crcBit s)
def crcByte (s b : Nat) : Nat := crcBits 8 (s ^^^ b)
def sumMore (s : Nat) (t : List UInt8) : Nat := t.foldl (fun s b => crcByte s b.toNat) s
def sumOf (t : List UInt8) : Nat := sumMore 4294967295 t
theorem crcBit_lt {s : Nat} (h : s < 4294967296) : crcBit s < 4294967296 := by
  unfold crcBit
  split
  · exact Nat.xor_lt_two_pow (n := 32) (by omega) (by omega)
  · omega
theorem crcBits_lt : ∀ {k s : Nat}, s < 4294967296 → crcBits k s < 4294967296
  | 0, _, h => h
  | k + 1, _, h => crcBits_lt (k := k) (crcBit_lt h)
theorem crcByte_lt {s b : Nat} (h : s < 4294967296) (hb : b < 256) : crcByte s b < 4294967296 := crcBits_lt (Nat.xor_lt_two_pow (n := 32) (by omega) (by omega))
theorem sumMore_lt : ∀ {t : List UInt8} {s : Nat}, s < 4294967296 → sumMore s t < 4294967296
  | [], s, h => h
  | b :: t, s, h => by
    show sumMore (crcByte s b.toNat) t < _
    exact sumMore_lt (crcByte_lt h (byte_lt b))
theorem sumOf_lt {t : List UInt8} : sumOf t < 4294967296 := sumMore_lt (by omega)
theorem sumMore_snoc {s : Nat} {t : List UInt8} {i : Nat} {p : UInt8} (h : t[i]? = some p) : sumMore s (t.take (i + 1)) = crcByte (sumMore s (t.take i)) p.toNat := by
  rw [take_snoc h]; simp [sumMore]
def four (n : Nat) : List UInt8 := [UInt8.ofNat (n / 16777216), UInt8.ofNat (n / 65536), UInt8.ofNat (n / 256), UInt8.ofNat n]
theorem four_len {n : Nat} : (four n).length = 4 := rfl
def sealB (t : List UInt8) : List UInt8 := t ++ four (sumOf t)
theorem seal_len {t : List UInt8} : (sealB t).length = t.length + 4 := by simp [sealB, four]
def unsealB (t : List UInt8) : Option (List UInt8) :=
  if 4 ≤ t.length ∧ t.length - 4 ≤ 20000 ∧ t.drop (t.length - 4) = four (sumOf (t.take (t.length - 4))) then some (t.take (t.length - 4)) else none
theorem unseal_iff {t b : List UInt8} : unsealB t = some b ↔ b.length ≤ 20000 ∧ t = sealB b := by
  unfold unsealB
  constructor
  · intro h
    split at h
    · rename_i hh
      obtain ⟨h1, h2, h3⟩ := hh
      obtain rfl := Option.some.inj h
      refine ⟨by simp; omega, ?_⟩
      rw [sealB, ← h3, List.take_append_drop]
    · cases h
  · rintro ⟨h1, rfl⟩
    have e : (sealB b).length - 4 = b.length := by rw [seal_len]; omega
    have e1 : (sealB b).take b.length = b := by simp [sealB]
    have e2 : (sealB b).drop b.length = four (sumOf b) := by simp [sealB]
    rw [e, e1, e2, if_pos ⟨by rw [seal_len]; omega, h1, rfl⟩]

end Go.Rx

namespace Go.Rx
open Go

/-! nodes -/
def ascK (l : List (List UInt8)) : Prop := l.Pairwise fun a b => bLess a b = true
instance {l : List (List UInt8)} : Decidable (ascK l) := by unfold ascK; infer_instance
def nodeOk (n : GNode) : Prop :=
  1 ≤ n.fKeys.length ∧ n.fKeys.length ≤ 4 ∧ ascK n.fKeys ∧ (∀ k ∈ n.fKeys, k.length ≤ 24) ∧
  if n.fLeaf = true then n.fVals.length = n.fKeys.length ∧ (∀ v ∈ n.fVals, v.length ≤ 24) ∧ n.fKids = []
  else n.fKids.length = n.fKeys.length ∧ n.fVals = [] ∧ (∀ k ∈ n.fKids, 2 ≤ k ∧ k ≤ 39) ∧ n.fKids.Nodup
instance {n : GNode} : Decidable (nodeOk n) := by unfold nodeOk; infer_instance

def lent (e : List UInt8 × List UInt8) : List UInt8 := shortB e.1 ++ shortB e.2
def bent (e : List UInt8 × Int) : List UInt8 := shortB e.1 ++ varB e.2.toNat
def nodeBytes (n : GNode) : List UInt8 :=
  (if n.fLeaf = true then 108 else 98) :: (varB n.fKeys.length ++ if n.fLeaf = true then (n.fKeys.zip n.fVals).flatMap lent else (n.fKeys.zip n.fKids).flatMap bent)
def nodeText (n : GNode) : List UInt8 := sealB (nodeBytes n)

/-- k pairs of a leaf. -/
def pl : Nat → List UInt8 → Option (List (List UInt8 × List UInt8) × List UInt8)
  | 0, l => some ([], l)
  | k + 1, l => match rs l with
    | none => none
    | some (key, l1) => match rs l1 with
      | none => none
      | some (v, l2) => (pl k l2).map fun r => ((key, v) :: r.1, r.2)
/-- k kids of a branch, each at most most. -/
def pb (most : Nat) : Nat → List UInt8 → Option (List (List UInt8 × Int) × List UInt8)
  | 0, l => some ([], l)
  | k + 1, l => match rs l with
    | none => none
    | some (key, l1) => match rv l1 with
      | none => none
      | some (v, l2) => if v ≤ most then (pb most k l2).map fun r => ((key, (v : Int)) :: r.1, r.2) else none

theorem pl_iff : ∀ {k : Nat} {l : List UInt8} {es : List (List UInt8 × List UInt8)} {rest : List UInt8}, pl k l = some (es, rest) ↔
    es.length = k ∧ (∀ e ∈ es, e.1.length ≤ 20000 ∧ e.2.length ≤ 20000) ∧ l = es.flatMap lent ++ rest
  | 0, l, es, rest => by
    simp only [pl, Option.some.injEq, Prod.mk.injEq]
    constructor
    · rintro ⟨rfl, rfl⟩; simp
    · rintro ⟨h1, _, h3⟩
      obtain rfl := List.length_eq_zero_iff.1 h1
      simpa using h3
  | k + 1, l, es, rest => by
    simp only [pl]
    constructor
    · intro h
      split at h
      · cases h
      · rename_i key l1 h1
        split at h
        · cases h
        · rename_i v l2 h2
          cases h3 : pl k l2 with
          | none => rw [h3] at h; cases h
          | some r =>
            obtain ⟨es', r⟩ := r
            rw [h3] at h
            simp only [Option.map_some, Option.some.injEq, Prod.mk.injEq] at h
            obtain ⟨rfl, rfl⟩ := h
            obtain ⟨g1, g2⟩ := rs_iff.1 h1
            obtain ⟨g3, g4⟩ := rs_iff.1 h2
            obtain ⟨g5, g6, g7⟩ := pl_iff.1 h3
            refine ⟨by simp [g5], ?_, ?_⟩
            · intro e he
              rcases List.mem_cons.1 he with rfl | he
              · exact ⟨g1, g3⟩
              · exact g6 e he
            · rw [g2, g4, g7]; simp [lent]
    · rintro ⟨h1, h2, h3⟩
      cases es with
      | nil => simp at h1
      | cons e es =>
        obtain ⟨key, v⟩ := e
        have he := h2 (key, v) (by simp)
        rw [show rs l = some (key, shortB v ++ (es.flatMap lent ++ rest)) from rs_iff.2 ⟨he.1, by rw [h3]; simp [lent]⟩]
        simp only
        rw [show rs (shortB v ++ (es.flatMap lent ++ rest)) = some (v, es.flatMap lent ++ rest) from rs_iff.2 ⟨he.2, rfl⟩]
        simp only
        rw [show pl k (es.flatMap lent ++ rest) = some (es, rest) from pl_iff.2 ⟨by simpa using h1, fun e he => h2 e (by simp [he]), rfl⟩]
        rfl

theorem pb_iff {most : Nat} (hm : most ≤ 1000000000) : ∀ {k : Nat} {l : List UInt8} {es : List (List UInt8 × Int)} {rest : List UInt8}, pb most k l = some (es, rest) ↔
    es.length = k ∧ (∀ e ∈ es, e.1.length ≤ 20000 ∧ 0 ≤ e.2 ∧ e.2 ≤ most) ∧ l = es.flatMap bent ++ rest
  | 0, l, es, rest => by
    simp only [pb, Option.some.injEq, Prod.mk.injEq]
    constructor
    · rintro ⟨rfl, rfl⟩; simp
    · rintro ⟨h1, _, h3⟩
      obtain rfl := List.length_eq_zero_iff.1 h1
      simpa using h3
  | k + 1, l, es, rest => by
    simp only [pb]
    constructor
    · intro h
      split at h
      · cases h
      · rename_i key l1 h1
        split at h
        · cases h
        · rename_i v l2 h2
          split at h
          · rename_i hv
            cases h3 : pb most k l2 with
            | none => rw [h3] at h; cases h
            | some r =>
              obtain ⟨es', r⟩ := r
              rw [h3] at h
              simp only [Option.map_some, Option.some.injEq, Prod.mk.injEq] at h
              obtain ⟨rfl, rfl⟩ := h
              obtain ⟨g1, g2⟩ := rs_iff.1 h1
              obtain ⟨g3, g4⟩ := rv_iff.1 h2
              obtain ⟨g5, g6, g7⟩ := (pb_iff hm).1 h3
              refine ⟨by simp [g5], ?_, ?_⟩
              · intro e he
                rcases List.mem_cons.1 he with rfl | he
                · exact ⟨g1, by simp, by simp; omega⟩
                · exact g6 e he
              · rw [g2, g4, g7]; simp [bent]
          · cases h
    · rintro ⟨h1, h2, h3⟩
      cases es with
      | nil => simp at h1
      | cons e es =>
        obtain ⟨key, v⟩ := e
        have he := h2 (key, v) (by simp)
        simp only at he
        rw [show rs l = some (key, varB v.toNat ++ (es.flatMap bent ++ rest)) from rs_iff.2 ⟨he.1, by rw [h3]; simp [bent]⟩]
        simp only
        rw [show rv (varB v.toNat ++ (es.flatMap bent ++ rest)) = some (v.toNat, es.flatMap bent ++ rest) from rv_iff.2 ⟨by omega, rfl⟩]
        simp only
        rw [if_pos (by omega), show pb most k (es.flatMap bent ++ rest) = some (es, rest) from (pb_iff hm).2 ⟨by simpa using h1, fun e he => h2 e (by simp [he]), rfl⟩]
        simp; omega

def leafOf (es : List (List UInt8 × List UInt8)) : GNode := ⟨true, es.map (·.1), es.map (·.2), []⟩
def branchOf (es : List (List UInt8 × Int)) : GNode := ⟨false, es.map (·.1), [], es.map (·.2)⟩

def parseNode (c : UInt8) (b : List UInt8) : Option GNode :=
  if c ≠ 108 ∧ c ≠ 98 then none else
  match rv b with
  | none => none
  | some (k, l) => if 4 < k then none else
    if c = 108 then (match pl k l with
      | some (es, []) => some (leafOf es)
      | _ => none)
    else (match pb 40 k l with
      | some (es, []) => some (branchOf es)
      | _ => none)
def readBody : List UInt8 → Option GNode
  | [] => none
  | c :: b => match parseNode c b with
    | some n => if nodeOk n then some n else none
    | none => none
def readNode (t : List UInt8) : Option GNode := match unsealB t with
  | none => none
  | some s => readBody s

theorem zip_fst_snd {α β : Type} (es : List (α × β)) : (es.map (·.1)).zip (es.map (·.2)) = es := by
  induction es with
  | nil => rfl
  | cons e es ih => simp [ih]
theorem leafOf_zip {n : GNode} (h : n.fVals.length = n.fKeys.length) (h1 : n.fLeaf = true) (h2 : n.fKids = []) : leafOf (n.fKeys.zip n.fVals) = n := by
  obtain ⟨a, b, c, d⟩ := n
  simp only at h h1 h2
  subst h1; subst h2
  simp only [leafOf]
  rw [List.map_fst_zip (by omega), List.map_snd_zip (by omega)]
theorem branchOf_zip {n : GNode} (h : n.fKids.length = n.fKeys.length) (h1 : ¬ n.fLeaf = true) (h2 : n.fVals = []) : branchOf (n.fKeys.zip n.fKids) = n := by
  obtain ⟨a, b, c, d⟩ := n
  simp only at h h1 h2
  subst h2
  simp only [branchOf]
  rw [List.map_fst_zip (by omega), List.map_snd_zip (by omega)]
  simp at h1; rw [h1]
theorem nodeBytes_leaf {es : List (List UInt8 × List UInt8)} : nodeBytes (leafOf es) = 108 :: (varB es.length ++ es.flatMap lent) := by
  simp [nodeBytes, leafOf, zip_fst_snd]
theorem nodeBytes_branch {es : List (List UInt8 × Int)} : nodeBytes (branchOf es) = 98 :: (varB es.length ++ es.flatMap bent) := by
  simp [nodeBytes, branchOf, zip_fst_snd]

theorem parseNode_sound {c : UInt8} {b : List UInt8} {n : GNode} (h : parseNode c b = some n) : c :: b = nodeBytes n := by
  unfold parseNode at h
  split at h
  · cases h
  · rename_i hc
    split at h
    · cases h
    · rename_i k l hv
      obtain ⟨_, hb⟩ := rv_iff.1 hv
      split at h
      · cases h
      · split at h
        · rename_i h1
          split at h
          · rename_i es hp
            obtain rfl := Option.some.inj h
            obtain ⟨g1, _, g3⟩ := pl_iff.1 hp
            rw [nodeBytes_leaf, g1, h1, hb, g3, List.append_nil]
          · cases h
        · rename_i h1
          split at h
          · rename_i es hp
            obtain rfl := Option.some.inj h
            obtain ⟨g1, _, g3⟩ := (pb_iff (by omega)).1 hp
            have : c = 98 := Decidable.byContradiction fun e => hc ⟨h1, e⟩
            rw [nodeBytes_branch, g1, this, hb, g3, List.append_nil]
          · cases h

/-- What a right node's bytes are read as, with looser bounds too. -/
theorem leaf_read {n : GNode} (hn : nodeOk n) (hl : n.fLeaf = true) :
    nodeBytes n = 108 :: (varB n.fKeys.length ++ (n.fKeys.zip n.fVals).flatMap lent) ∧
    rv (varB n.fKeys.length ++ (n.fKeys.zip n.fVals).flatMap lent) = some (n.fKeys.length, (n.fKeys.zip n.fVals).flatMap lent) ∧
    pl n.fKeys.length ((n.fKeys.zip n.fVals).flatMap lent) = some (n.fKeys.zip n.fVals, []) ∧ leafOf (n.fKeys.zip n.fVals) = n := by
  obtain ⟨h1, h2, h3, h4, h5⟩ := hn
  rw [if_pos hl] at h5
  refine ⟨by simp [nodeBytes, hl], rv_iff.2 ⟨by omega, rfl⟩, pl_iff.2 ⟨by simp; omega, fun e he => ?_, by simp⟩, leafOf_zip h5.1 hl h5.2.2⟩
  have g1 := h4 e.1 (List.of_mem_zip (a := e.1) (b := e.2) he).1
  have g2 := h5.2.1 e.2 (List.of_mem_zip (a := e.1) (b := e.2) he).2
  omega
theorem branch_read {n : GNode} (hn : nodeOk n) (hl : ¬ n.fLeaf = true) {most : Nat} (hm : 40 ≤ most ∧ most ≤ 1000000000) :
    nodeBytes n = 98 :: (varB n.fKeys.length ++ (n.fKeys.zip n.fKids).flatMap bent) ∧
    rv (varB n.fKeys.length ++ (n.fKeys.zip n.fKids).flatMap bent) = some (n.fKeys.length, (n.fKeys.zip n.fKids).flatMap bent) ∧
    pb most n.fKeys.length ((n.fKeys.zip n.fKids).flatMap bent) = some (n.fKeys.zip n.fKids, []) ∧ branchOf (n.fKeys.zip n.fKids) = n := by
  obtain ⟨h1, h2, h3, h4, h5⟩ := hn
  rw [if_neg hl] at h5
  refine ⟨by simp only [nodeBytes, if_neg hl], rv_iff.2 ⟨by omega, rfl⟩, (pb_iff hm.2).2 ⟨by simp; omega, fun e he => ?_, by simp⟩, branchOf_zip h5.1 hl h5.2.1⟩
  have g1 := h4 e.1 (List.of_mem_zip (a := e.1) (b := e.2) he).1
  have g2 := h5.2.2.1 e.2 (List.of_mem_zip (a := e.1) (b := e.2) he).2
  omega

theorem readBody_iff {s : List UInt8} {n : GNode} : readBody s = some n ↔ nodeOk n ∧ s = nodeBytes n := by
  constructor
  · intro h
    cases s with
    | nil => cases h
    | cons c b =>
      simp only [readBody] at h
      split at h
      · rename_i m hp
        split at h
        · rename_i hm
          obtain rfl := Option.some.inj h
          exact ⟨hm, parseNode_sound hp⟩
        · cases h
      · cases h
  · rintro ⟨hn, rfl⟩
    have hk : n.fKeys.length ≤ 4 := hn.2.1
    by_cases hl : n.fLeaf = true
    · obtain ⟨g1, g2, g3, g4⟩ := leaf_read hn hl
      rw [g1]
      simp only [readBody, parseNode]
      rw [if_neg (by simp), g2]
      simp only
      rw [if_neg (by omega), if_pos trivial, g3]
      simp only
      rw [g4, if_pos hn]
    · obtain ⟨g1, g2, g3, g4⟩ := branch_read hn hl (most := 40) (by omega)
      rw [g1]
      simp only [readBody, parseNode]
      rw [if_neg (by simp), g2]
      simp only
      rw [if_neg (by omega), if_neg (by decide), g3]
      simp only
      rw [g4, if_pos hn]

theorem shortB_len {s : List UInt8} (h : s.length ≤ 24) : (shortB s).length ≤ 25 := by
  rw [shortB, varB_small (by omega)]; simp; omega
theorem varB_len1 {n : Nat} (h : n < 128) : (varB n).length = 1 := by rw [varB_small h]; rfl
theorem flatMap_len {α : Type} {f : α → List UInt8} {m : Nat} : ∀ {l : List α}, (∀ e ∈ l, (f e).length ≤ m) → (l.flatMap f).length ≤ l.length * m
  | [], _ => by simp
  | e :: l, h => by
    have h1 := flatMap_len (l := l) (f := f) (m := m) fun e he => h e (by simp [he])
    have h2 := h e (by simp)
    simp only [List.flatMap_cons, List.length_append, List.length_cons, Nat.succ_mul]
    omega
theorem nodeBytes_len {n : GNode} (hn : nodeOk n) : (nodeBytes n).length ≤ 202 := by
  obtain ⟨h1, h2, h3, h4, h5⟩ := hn
  unfold nodeBytes
  simp only [List.length_cons, List.length_append]
  rw [varB_len1 (by omega)]
  split at h5
  · rename_i hl
    rw [if_pos hl]
    have : ((n.fKeys.zip n.fVals).flatMap lent).length ≤ (n.fKeys.zip n.fVals).length * 50 := flatMap_len fun e he => by
      have g1 := shortB_len (h4 e.1 (List.of_mem_zip (a := e.1) (b := e.2) he).1)
      have g2 := shortB_len (h5.2.1 e.2 (List.of_mem_zip (a := e.1) (b := e.2) he).2)
      simp only [lent, List.length_append]; omega
    simp only [List.length_zip] at this
    omega
  · rename_i hl
    rw [if_neg hl]
    have : ((n.fKeys.zip n.fKids).flatMap bent).length ≤ (n.fKeys.zip n.fKids).length * 50 := flatMap_len fun e he => by
      have g1 := shortB_len (h4 e.1 (List.of_mem_zip (a := e.1) (b := e.2) he).1)
      have g2 := h5.2.2.1 e.2 (List.of_mem_zip (a := e.1) (b := e.2) he).2
      have g3 := varB_len1 (n := e.2.toNat) (by omega)
      simp only [bent, List.length_append]; omega
    simp only [List.length_zip] at this
    omega

theorem readNode_iff {t : List UInt8} {n : GNode} : readNode t = some n ↔ nodeOk n ∧ t = nodeText n := by
  unfold readNode
  constructor
  · intro h
    split at h
    · cases h
    · rename_i s hs
      obtain ⟨h1, h2⟩ := readBody_iff.1 h
      obtain ⟨_, h4⟩ := unseal_iff.1 hs
      exact ⟨h1, by rw [h4, h2, nodeText]⟩
  · rintro ⟨hn, rfl⟩
    have hl := nodeBytes_len hn
    rw [show unsealB (nodeText n) = some (nodeBytes n) from unseal_iff.2 ⟨by omega, rfl⟩]
    exact readBody_iff.2 ⟨hn, rfl⟩

/-- Reading with loose bounds, and writing again to compare. -/
def looseNode (c : UInt8) (b : List UInt8) : Option GNode := match rv b with
  | none => none
  | some (k, l) => if c = 108 then (pl (min k 10) l).map fun r => leafOf r.1 else (pb 1000000000 (min k 10) l).map fun r => branchOf r.1
theorem loose_eq {t : List UInt8} {c : UInt8} {b : List UInt8} (hs : unsealB t = some (c :: b)) :
    readNode t = match looseNode c b with
      | none => none
      | some n => if nodeOk n ∧ nodeText n = t then some n else none := by
  have key : ∀ n, readNode t = some n → looseNode c b = some n := by
    intro n hn
    obtain ⟨h1, h2⟩ := readNode_iff.1 hn
    obtain ⟨_, h4⟩ := unseal_iff.1 hs
    have e : c :: b = nodeBytes n := by
      have hb := nodeBytes_len h1
      have := (unseal_iff (t := t) (b := nodeBytes n)).2 ⟨by omega, h2⟩
      rw [hs] at this; exact Option.some.inj this
    have hk : n.fKeys.length ≤ 4 := h1.2.1
    by_cases hl : n.fLeaf = true
    · obtain ⟨g1, g2, g3, g4⟩ := leaf_read h1 hl
      rw [g1] at e
      obtain ⟨rfl, rfl⟩ := List.cons.inj e
      rw [looseNode, g2]
      simp only
      rw [if_pos trivial, Nat.min_eq_left (by omega), g3]
      simp [g4]
    · obtain ⟨g1, g2, g3, g4⟩ := branch_read h1 hl (most := 1000000000) (by omega)
      rw [g1] at e
      obtain ⟨rfl, rfl⟩ := List.cons.inj e
      rw [looseNode, g2]
      simp only
      rw [if_neg (by decide), Nat.min_eq_left (by omega), g3]
      simp [g4]
  cases hr : readNode t with
  | some n => rw [key n hr]; simp only; rw [if_pos]; obtain ⟨h1, h2⟩ := readNode_iff.1 hr; exact ⟨h1, h2.symm⟩
  | none =>
    cases hl : looseNode c b with
    | none => rfl
    | some n =>
      simp only
      rw [if_neg]
      rintro ⟨h1, h2⟩
      rw [readNode_iff.2 ⟨h1, h2.symm⟩] at hr
      cases hr

end Go.Rx

namespace Go.Rx
open Go

/-! pages -/
def isPage (d : GDisk) (p : Int) : Prop := 0 ≤ p ∧ p ≤ (d.fPages.length : Int) - 1
instance {d : GDisk} {p : Int} : Decidable (isPage d p) := by unfold isPage; infer_instance
def lateText (l : List GPut) (p : Int) : Option (List UInt8) := (l.reverse.find? fun q => decide (q.fPage = p)).map (·.fText)
theorem lateText_nil {p : Int} : lateText [] p = none := rfl
theorem lateText_snoc {l : List GPut} {q : GPut} {p : Int} : lateText (l ++ [q]) p = if q.fPage = p then some q.fText else lateText l p := by
  simp only [lateText, List.reverse_append, List.reverse_cons, List.reverse_nil, List.nil_append, List.cons_append, List.find?_cons]
  by_cases h : q.fPage = p <;> simp [h]
def readPage (d : GDisk) (p : Int) : List UInt8 := if isPage d p then (lateText d.fLate p).getD (d.fPages.getD p.toNat []) else []

/-! trees -/
structure Tr where
  pages : List Int
  pairs : List GPair
  deeps : List Int
  order : Bool
  bad : Bool
  deriving Inhabited
def Tr.new : Tr := ⟨[], [], [], true, false⟩
def Tr.ord (t : Tr) (o : Bool) : Tr := ⟨t.pages, t.pairs, t.deeps, o, t.bad⟩
def pairOf (e : List UInt8 × List UInt8) : GPair := ⟨e.1, e.2⟩
def pairsOf (n : GNode) : List GPair := (n.fKeys.zip n.fVals).map pairOf
def keyBelow (l : List GPair) (k : List UInt8) : Bool := l.any fun p => bLess p.fKey k
def keyFrom (l : List GPair) (k : List UInt8) : Bool := l.any fun p => !bLess p.fKey k

def kidsI (rec : Int → Tr → Tr) (first : Nat) : List (List UInt8 × Int) → Tr → Tr
  | [], t => t
  | (k, c) :: l, t =>
    if (rec c t).bad = true then rec c t else
    kidsI rec first l ((rec c t).ord ((rec c t).order && (!keyBelow ((rec c t).pairs.drop t.pairs.length) k && !keyFrom (((rec c t).pairs.take t.pairs.length).drop first) k)))

def downI (d : GDisk) : Nat → Int → Tr → Tr
  | 0, _, t => { t with bad := true }
  | f + 1, page, t => match readNode (readPage d page) with
    | none => { t with bad := true }
    | some n => if t.bad = true ∨ page ∈ t.pages then { t with bad := true } else
      if n.fLeaf = true then { t with pages := t.pages ++ [page], deeps := t.deeps ++ [8 - (f : Int)], pairs := t.pairs ++ pairsOf n }
      else kidsI (downI d f) t.pairs.length (n.fKeys.zip n.fKids) { t with pages := t.pages ++ [page] }

def treeOf (d : GDisk) (root : Int) : Tr := if root = 0 then Tr.new else downI d 8 root Tr.new
def allPairs (d : GDisk) (root : Int) : Option (List GPair) := if (treeOf d root).bad = true then none else some (treeOf d root).pairs

structure Al where
  pairs : List GPair
  pages : List Int
  deeps : List Int
  bad : Bool
  loose : Bool
  deriving Inhabited
def Al.new : Al := ⟨[], [], [], false, false⟩

def leafS (low high : List UInt8) (has : Bool) : List (List UInt8 × List UInt8) → Al → Al
  | [], a => a
  | (k, v) :: l, a => leafS low high has l { a with loose := a.loose || (bLess k low || (has && !bLess k high)), pairs := a.pairs ++ [⟨k, v⟩] }

/-- What bounds the keys below a kid. -/
def lowS (low k : List UInt8) : List UInt8 := if bLess low k = true then k else low
def capS (high : List UInt8) (has : Bool) : List (List UInt8 × Int) → Bool
  | (k2, _) :: _ => !has || bLess k2 high
  | [] => false
def highS (high : List UInt8) (has : Bool) (l : List (List UInt8 × Int)) : List UInt8 := if capS high has l = true then (l.head?.map (·.1)).getD [] else high
def moreS (high : List UInt8) (has : Bool) (l : List (List UInt8 × Int)) : Bool := if capS high has l = true then true else has

def kidsS (rec : Int → List UInt8 → List UInt8 → Bool → Al → Al) (low high : List UInt8) (has : Bool) : List (List UInt8 × Int) → Al → Al
  | [], a => a
  | (k, c) :: l, a => kidsS rec low high has l (rec c (lowS low k) (highS high has l) (moreS high has l) a)

def walkS (d : GDisk) : Nat → Int → List UInt8 → List UInt8 → Bool → Al → Al
  | 0, _, _, _, _, a => { a with bad := true }
  | f + 1, page, low, high, has, a => match readNode (readPage d page) with
    | none => { a with bad := true }
    | some n => if page ∈ a.pages ∨ a.bad = true then { a with bad := true } else
      if n.fLeaf = true then
        { leafS low high has (n.fKeys.zip n.fVals) { a with pages := a.pages ++ [page] } with deeps := (leafS low high has (n.fKeys.zip n.fVals) { a with pages := a.pages ++ [page] }).deeps ++ [7 - (f : Int)] }
      else kidsS (walkS d f) low high has (n.fKeys.zip n.fKids) { a with pages := a.pages ++ [page] }

def lookS (d : GDisk) (root : Int) : Al := if root = 0 then Al.new else walkS d 8 root [] [] false Al.new

/-- Both walks are at the same place. -/
def Same (t : Tr) (a : Al) : Prop := t.bad = a.bad ∧ (a.bad = false → t.pages = a.pages ∧ t.pairs = a.pairs ∧ t.deeps = a.deeps.map (· + 1))

theorem leafS_eq {low high : List UInt8} {has : Bool} : ∀ {l : List (List UInt8 × List UInt8)} {a : Al}, leafS low high has l a =
    { a with pairs := a.pairs ++ l.map pairOf, loose := a.loose || l.any fun e => bLess e.1 low || (has && !bLess e.1 high) }
  | [], a => by simp [leafS]
  | (k, v) :: l, a => by
    rw [leafS, leafS_eq]
    simp [pairOf, Bool.or_assoc]

theorem walkS_bad {d : GDisk} : ∀ {f : Nat} {page : Int} {low high : List UInt8} {has : Bool} {a : Al}, a.bad = true → (walkS d f page low high has a).bad = true
  | 0, _, _, _, _, _, _ => rfl
  | f + 1, page, low, high, has, a, h => by
    rw [walkS]
    split
    · rfl
    · rw [if_pos (.inr h)]
theorem kidsS_bad {rec : Int → List UInt8 → List UInt8 → Bool → Al → Al} (hr : ∀ c lo hi has a, a.bad = true → (rec c lo hi has a).bad = true) {low high : List UInt8} {has : Bool} :
    ∀ {l : List (List UInt8 × Int)} {a : Al}, a.bad = true → (kidsS rec low high has l a).bad = true
  | [], _, h => h
  | (k, c) :: l, a, h => by rw [kidsS]; exact kidsS_bad hr (hr _ _ _ _ _ h)

theorem kids_same {rt : Int → Tr → Tr} {ra : Int → List UInt8 → List UInt8 → Bool → Al → Al} (hr : ∀ c lo hi has t a, Same t a → Same (rt c t) (ra c lo hi has a))
    (hb : ∀ c lo hi has a, a.bad = true → (ra c lo hi has a).bad = true) {first : Nat} {low high : List UInt8} {has : Bool} :
    ∀ {l : List (List UInt8 × Int)} {t : Tr} {a : Al}, Same t a → Same (kidsI rt first l t) (kidsS ra low high has l a)
  | [], _, _, h => h
  | (k, c) :: l, t, a, h => by
    rw [kidsI, kidsS]
    have h1 := hr c (lowS low k) (highS high has l) (moreS high has l) t a h
    split
    · rename_i hbad
      have h2 : (ra c (lowS low k) (highS high has l) (moreS high has l) a).bad = true := by rw [← h1.1]; exact hbad
      have h3 := kidsS_bad hb (low := low) (high := high) (has := has) (l := l) h2
      exact ⟨by rw [hbad, h3], fun e => by rw [h3] at e; cases e⟩
    · exact kids_same hr hb ⟨h1.1, h1.2⟩

theorem walk_same {d : GDisk} : ∀ {f : Nat} {page : Int} {low high : List UInt8} {has : Bool} {t : Tr} {a : Al}, Same t a → Same (downI d f page t) (walkS d f page low high has a)
  | 0, _, _, _, _, _, _, _ => ⟨rfl, fun e => by cases e⟩
  | f + 1, page, low, high, has, t, a, h => by
    rw [downI, walkS]
    cases hn : readNode (readPage d page) with
    | none => exact ⟨rfl, fun e => by cases e⟩
    | some n =>
      simp only
      by_cases hb : a.bad = true
      · rw [if_pos (.inl (h.1.trans hb)), if_pos (.inr hb)]
        exact ⟨rfl, fun e => by cases e⟩
      · have hbf : a.bad = false := by simpa using hb
        obtain ⟨e1, e2, e3⟩ := h.2 hbf
        have htb : t.bad = false := h.1.trans hbf
        by_cases hp : page ∈ a.pages
        · rw [if_pos (.inr (by rw [e1]; exact hp)), if_pos (.inl hp)]
          exact ⟨rfl, fun e => by cases e⟩
        · rw [if_neg (c := t.bad = true ∨ page ∈ t.pages) (by rw [htb, e1]; simpa using hp), if_neg (c := page ∈ a.pages ∨ a.bad = true) (by rw [hbf]; simpa using hp)]
          split
          · rw [leafS_eq]
            refine ⟨h.1, fun _ => ⟨?_, ?_, ?_⟩⟩
            · simp only; rw [e1]
            · simp only [pairsOf]; rw [e2]
            · simp only [List.map_append, List.map_cons, List.map_nil]; rw [e3]; congr 2; omega
          · exact kids_same (rt := downI d f) (ra := walkS d f) (fun c lo hi hs t a h => walk_same h) (fun c lo hi hs a h => walkS_bad h) ⟨h.1, fun _ => ⟨by rw [← e1], e2, e3⟩⟩

theorem look_same {d : GDisk} {root : Int} : Same (treeOf d root) (lookS d root) := by
  unfold treeOf lookS
  split
  · exact ⟨rfl, fun _ => ⟨rfl, rfl, rfl⟩⟩
  · exact walk_same ⟨rfl, fun _ => ⟨rfl, rfl, rfl⟩⟩

theorem allPairs_look {d : GDisk} {root : Int} : allPairs d root = if (lookS d root).bad = true then none else some (lookS d root).pairs := by
  have h := look_same (d := d) (root := root)
  unfold allPairs
  rw [h.1]
  split
  · rfl
  · rename_i hb
    rw [(h.2 (by simpa using hb)).2.1]

end Go.Rx

namespace Go.Rx
open Go

/-! pages that are written -/
def diskOk (d : GDisk) : Prop :=
  4 ≤ d.fPages.length ∧ d.fPages.length ≤ 40 ∧ d.fLate.length ≤ 200 ∧ (∀ s ∈ d.fPages, s.length ≤ 240) ∧ ∀ p ∈ d.fLate, isPage d p.fPage ∧ p.fText.length ≤ 240
instance {d : GDisk} : Decidable (diskOk d) := by unfold diskOk; infer_instance
def writePage (d : GDisk) (p : Int) (t : List UInt8) : Option GDisk :=
  if diskOk d ∧ isPage d p ∧ t.length ≤ 240 ∧ d.fLate.length < 200 then some { d with fLate := d.fLate ++ [⟨p, t⟩] } else none
def givePage (w : GWork) : GWork × Int := match w.fUsable with
  | u :: us => ({ w with fUsable := us, fFresh := w.fFresh ++ [u] }, u)
  | [] => if (w.fDisk.fPages.length : Int) ≤ w.fNext then (w, 0) else ({ w with fNext := w.fNext + 1, fFresh := w.fFresh ++ [w.fNext] }, w.fNext)
def putNode (w : GWork) (n : GNode) : Option (GWork × Int) :=
  if nodeOk n then if (givePage w).2 = 0 then none else
    match writePage (givePage w).1.fDisk (givePage w).2 (nodeText n) with
    | none => none
    | some d => some ({ (givePage w).1 with fDisk := d }, (givePage w).2)
  else none

/-! a tree that is built -/
def asc (l : List GPair) : Prop := l.Pairwise fun p q => bLess p.fKey q.fKey = true
instance {l : List GPair} : Decidable (asc l) := by unfold asc; infer_instance
/-- Parts of four. -/
def fours {α : Type} : List α → List (List α)
  | [] => []
  | a :: l => (a :: l.take 3) :: fours (l.drop 3)
termination_by l => l.length
decreasing_by simp; omega
def leafN (c : List GPair) : GNode := ⟨true, c.map (·.fKey), c.map (·.fVal), []⟩
def branchN (c : List (List UInt8 × Int)) : GNode := ⟨false, c.map (·.1), [], c.map (·.2)⟩
def putAll : GWork → List GNode → Option (GWork × List (List UInt8 × Int))
  | w, [] => some (w, [])
  | w, n :: ns => match putNode w n with
    | none => none
    | some (w1, p) => match putAll w1 ns with
      | none => none
      | some (w2, ks) => some (w2, (n.fKeys.headD [], p) :: ks)
def levels : Nat → GWork → List (List UInt8 × Int) → Option (GWork × Int)
  | 0, _, _ => none
  | f + 1, w, ks => match ks with
    | [] => some (w, 0)
    | [k] => some (w, k.2)
    | ks => match putAll w ((fours ks).map branchN) with
      | none => none
      | some (w1, ks1) => levels f w1 ks1
def buildTree (w : GWork) (l : List GPair) : Option (GWork × Int) :=
  if asc l then match putAll w ((fours l).map leafN) with
    | none => none
    | some (w1, ks) => levels (ks.length + 1) w1 ks
  else none

end Go.Rx

namespace Go.Rx
open Go

/-! bits of numbers -/
theorem ofInt_nat {w n : Nat} : BitVec.ofInt w (n : Int) = BitVec.ofNat w n := BitVec.ofInt_natCast w n
theorem wrap_nat {n : Nat} (h : n < 9223372036854775808) : IntKind.i64.wrap (n : Int) = n := wrap_int (by omega) (by omega)
theorem wrap32 {n : Nat} (h : n < 4294967296) : IntKind.u32.wrap (n : Int) = n := by
  simp [IntKind.wrap, IntKind.bits, IntKind.signed]; omega
theorem wrap8 {n : Nat} : IntKind.u8.wrap (n : Int) = ((n % 256 : Nat) : Int) := by
  simp [IntKind.wrap, IntKind.bits, IntKind.signed]
theorem and64 {a b : Nat} (ha : a < 9223372036854775808) (hb : b < 9223372036854775808) : bAnd .i64 (a : Int) (b : Int) = ((a &&& b : Nat) : Int) := by
  show IntKind.i64.wrap (((BitVec.ofInt 64 (a : Int) &&& BitVec.ofInt 64 (b : Int)).toNat : Nat) : Int) = _
  rw [ofInt_nat, ofInt_nat, BitVec.toNat_and, BitVec.toNat_ofNat, BitVec.toNat_ofNat, Nat.mod_eq_of_lt (by omega), Nat.mod_eq_of_lt (by omega)]
  exact wrap_nat (Nat.lt_of_le_of_lt Nat.and_le_left ha)
theorem or64 {a b : Nat} (ha : a < 9223372036854775808) (hb : b < 9223372036854775808) : bOr .i64 (a : Int) (b : Int) = ((a ||| b : Nat) : Int) := by
  show IntKind.i64.wrap (((BitVec.ofInt 64 (a : Int) ||| BitVec.ofInt 64 (b : Int)).toNat : Nat) : Int) = _
  rw [ofInt_nat, ofInt_nat, BitVec.toNat_or, BitVec.toNat_ofNat, BitVec.toNat_ofNat, Nat.mod_eq_of_lt (by omega), Nat.mod_eq_of_lt (by omega)]
  exact wrap_nat (Nat.or_lt_two_pow (n := 63) ha hb)
theorem xor32 {a b : Nat} (ha : a < 4294967296) (hb : b < 4294967296) : bXor .u32 (a : Int) (b : Int) = ((a ^^^ b : Nat) : Int) := by
  show IntKind.u32.wrap (((BitVec.ofInt 32 (a : Int) ^^^ BitVec.ofInt 32 (b : Int)).toNat : Nat) : Int) = _
  rw [ofInt_nat, ofInt_nat, BitVec.toNat_xor, BitVec.toNat_ofNat, BitVec.toNat_ofNat, Nat.mod_eq_of_lt (by omega), Nat.mod_eq_of_lt (by omega)]
  exact wrap32 (Nat.xor_lt_two_pow (n := 32) ha hb)
theorem and32 {a b : Nat} (ha : a < 4294967296) (hb : b < 4294967296) : bAnd .u32 (a : Int) (b : Int) = ((a &&& b : Nat) : Int) := by
  show IntKind.u32.wrap (((BitVec.ofInt 32 (a : Int) &&& BitVec.ofInt 32 (b : Int)).toNat : Nat) : Int) = _
  rw [ofInt_nat, ofInt_nat, BitVec.toNat_and, BitVec.toNat_ofNat, BitVec.toNat_ofNat, Nat.mod_eq_of_lt (by omega), Nat.mod_eq_of_lt (by omega)]
  exact wrap32 (Nat.lt_of_le_of_lt Nat.and_le_left ha)
theorem shr64 {a : Nat} {k : Nat} (hk : k ≤ 64) : bShr .i64 (a : Int) (k : Int) = ((a / 2 ^ k : Nat) : Int) := by
  show (a : Int).fdiv (2 ^ min ((k : Int).toNat) 64) = _
  rw [Int.toNat_natCast, Nat.min_eq_left hk, Int.fdiv_eq_ediv_of_nonneg _ (by exact_mod_cast Nat.zero_le _)]
  norm_cast
theorem shr32 {a : Nat} {k : Nat} (hk : k ≤ 32) : bShr .u32 (a : Int) (k : Int) = ((a / 2 ^ k : Nat) : Int) := by
  show (a : Int).fdiv (2 ^ min ((k : Int).toNat) 32) = _
  rw [Int.toNat_natCast, Nat.min_eq_left hk, Int.fdiv_eq_ediv_of_nonneg _ (by exact_mod_cast Nat.zero_le _)]
  norm_cast
theorem shl64 {a k : Nat} (hk : k ≤ 64) (h : a * 2 ^ k < 9223372036854775808) : bShl .i64 (a : Int) (k : Int) = ((a * 2 ^ k : Nat) : Int) := by
  show IntKind.i64.wrap ((a : Int) * 2 ^ min ((k : Int).toNat) 64) = _
  rw [Int.toNat_natCast, Nat.min_eq_left hk]
  have : ((a : Int) * 2 ^ k) = ((a * 2 ^ k : Nat) : Int) := by norm_cast
  rw [this, wrap_nat h]
theorem and127 {n : Nat} : n &&& 127 = n % 128 := Nat.and_two_pow_sub_one_eq_mod n 7
theorem and255n {n : Nat} : n &&& 255 = n % 256 := Nat.and_two_pow_sub_one_eq_mod n 8
theorem and1n {n : Nat} : n &&& 1 = n % 2 := Nat.and_two_pow_sub_one_eq_mod n 1
theorem or128 {n : Nat} (h : n < 128) : n ||| 128 = n + 128 := by
  have := Nat.shiftLeft_add_eq_or_of_lt (i := 7) (b := n) h 1
  rw [Nat.or_comm]; simp at this; omega
/-- Bits that lie apart. -/
theorem or_apart {a b k : Nat} (h : a < 2 ^ k) : a ||| b * 2 ^ k = a + b * 2 ^ k := by
  have := Nat.shiftLeft_add_eq_or_of_lt (i := k) (b := a) h b
  rw [Nat.shiftLeft_eq] at this
  rw [Nat.or_comm, ← this, Nat.add_comm]
theorem pow7 {k : Nat} : 2 ^ (7 * k) = 128 ^ k := by rw [Nat.pow_mul]
theorem byteU8 {n : Nat} (h : n < 256) : (((UInt8.ofNat n).toNat : Nat) : Int) = n := by rw [toNat_of h]
/-- A byte as it stands in memory. -/
theorem byteCell_of {n : Nat} : [D.int .u8 (IntKind.u8.wrap (n : Int))] = byteCell (UInt8.ofNat n) := by
  rw [wrap8]; simp [byteCell]
theorem byteOf_cell {x : UInt8} : byteOf (byteCell x) = x := by simp [byteOf, byteCell]
theorem byteOf_map {l : List UInt8} : (l.map byteCell).map byteOf = l := by
  rw [List.map_map]
  conv => rhs; rw [← List.map_id l]
  exact List.map_congr_left fun x _ => byteOf_cell
theorem bys_back {l : List UInt8} : ((bys l).map byteOf).map byteCell = bys l := by rw [bys, byteOf_map]
theorem bys_str {l : List UInt8} : (bys l).map byteOf = l := byteOf_map
theorem getD_some {α : Type} {l : List α} {i : Nat} {p d : α} (h : l[i]? = some p) : l.getD i d = p := by simp [List.getD, h]

end Go.Rx
namespace Go.Rx
theorem varB_len : ∀ {k n : Nat}, n < 128 ^ (k + 1) → (varB n).length ≤ k + 1
  | 0, n, h => by rw [varB_small (by omega)]; simp
  | k + 1, n, h => by
    by_cases hn : n < 128
    · rw [varB_small hn]; simp
    · rw [varB_big hn, List.length_cons]
      have := varB_len (k := k) (n := n / 128) (Nat.div_lt_of_lt_mul (by rw [Nat.pow_succ, Nat.mul_comm] at h; exact h))
      omega
theorem varB_len9 {n : Nat} (h : n < 9223372036854775808) : (varB n).length ≤ 9 := varB_len (k := 8) (by omega)
/-- What was written ahead, and one byte more. -/
theorem varB_step {out : List UInt8} {m : Nat} (h : ¬ m < 128) : (out ++ [UInt8.ofNat ((m % 128) + 128)]) ++ varB (m / 128) = out ++ varB m := by
  rw [varB_big h]; simp
end Go.Rx
namespace Go.Rx
theorem bys_back' {l : List UInt8} : (l.map byteCell) = bys l := rfl
end Go.Rx
namespace Go.Rx
attribute [go_sem] bys_back' bys_str byteCell_of
end Go.Rx
namespace Go.Rx
theorem toNat_lit (n : Nat) : Int.toNat (OfNat.ofNat n) = OfNat.ofNat n := rfl
attribute [go_sem] Int.toNat_zero toNat_lit
end Go.Rx
namespace Go.Rx
/-! the first place where something is so -/
def idxF {α : Type} (g : α → Bool) (l : List α) : Int := match l.findIdx? g with | some i => (i : Int) | none => -1
theorem idxF_none {α : Type} {g : α → Bool} {l : List α} (h : ∀ q ∈ l, g q = false) : idxF g l = -1 := by
  have : l.findIdx? g = none := by rw [List.findIdx?_eq_none_iff]; exact h
  rw [idxF, this]
theorem idxF_step {α : Type} {g : α → Bool} {l : List α} {i : Nat} {p : α} (hp : l[i]? = some p) (h : ∀ q ∈ l.take i, g q = false) (hg : g p = true) : idxF g l = i := by
  obtain ⟨hi, hpe⟩ := List.getElem?_eq_some_iff.1 hp
  have : l.findIdx? g = some i := by
    rw [List.findIdx?_eq_some_iff_getElem]
    refine ⟨hi, by rw [hpe]; exact hg, fun j hj => ?_⟩
    have := h l[j] (by rw [List.mem_take_iff_getElem]; exact ⟨j, by omega, rfl⟩)
    simp [this]
  rw [idxF, this]
theorem idxF_any {α : Type} {g : α → Bool} {l : List α} : decide (0 ≤ idxF g l) = l.any g := by
  unfold idxF
  cases h : l.findIdx? g with
  | none =>
    rw [List.findIdx?_eq_none_iff] at h
    have : l.any g = false := by rw [List.any_eq_false]; intro x hx; simp [h x hx]
    rw [this]; simp
  | some i =>
    rw [List.findIdx?_eq_some_iff_getElem] at h
    obtain ⟨hi, hg, _⟩ := h
    have : l.any g = true := List.any_eq_true.2 ⟨l[i], List.getElem_mem hi, hg⟩
    rw [this]; simp
theorem toDs_ds {h : Heap} : ∀ {xs : List D}, toDs h (xs.map .d) = some (xs, [])
  | [] => rfl
  | x :: xs => by rw [List.map_cons, toDs_d toDs_ds]
theorem toDs_cons {h : Heap} {x : D} {xs : List D} : toDs h (.d x :: xs.map .d) = some (x :: xs, []) := toDs_d toDs_ds
theorem any_dec {α : Type} {p : α → Prop} [DecidablePred p] {l : List α} : (l.any fun x => decide (p x)) = decide (∃ x ∈ l, p x) := by
  rw [Bool.eq_iff_iff]; simp
theorem asc_next {l : List (List UInt8)} {i : Nat} {p q : List UInt8} (h : ascK l) (hp : l[i]? = some p) (hq : l[i + 1]? = some q) : bLess p q = true := by
  obtain ⟨h1, e1⟩ := List.getElem?_eq_some_iff.1 hp
  obtain ⟨h2, e2⟩ := List.getElem?_eq_some_iff.1 hq
  have := List.pairwise_iff_getElem.1 h i (i + 1) h1 h2 (by omega)
  rw [e1, e2] at this; exact this
end Go.Rx
namespace Go.Rx
theorem ascK_snoc {l : List (List UInt8)} {i : Nat} {p q : List UInt8} (h : ascK (l.take (i + 1))) (hp : l[i]? = some p) (hq : l[i + 1]? = some q) (hlt : bLess p q = true) : ascK (l.take (i + 2)) := by
  rw [take_snoc hq]
  refine List.pairwise_append.2 ⟨h, by simp, fun a ha b hb => ?_⟩
  simp at hb; subst hb
  rw [take_snoc hp] at ha h
  rcases List.mem_append.1 ha with ha | ha
  · exact bLess_trans ((List.pairwise_append.1 h).2.2 a ha p (by simp)) hlt
  · simp at ha; subst ha; exact hlt
theorem nodeOk_leaf {n : GNode} (h : n.fLeaf = true) : nodeOk n ↔ (1 ≤ n.fKeys.length ∧ n.fKeys.length ≤ 4) ∧ ascK n.fKeys ∧ (∀ k ∈ n.fKeys, k.length ≤ 24) ∧ n.fVals.length = n.fKeys.length ∧ (∀ v ∈ n.fVals, v.length ≤ 24) ∧ n.fKids.length = 0 := by
  simp only [nodeOk, h, if_true, List.length_eq_zero_iff, and_assoc]
theorem nodeOk_branch {n : GNode} (h : n.fLeaf = false) : nodeOk n ↔ (1 ≤ n.fKeys.length ∧ n.fKeys.length ≤ 4) ∧ ascK n.fKeys ∧ (∀ k ∈ n.fKeys, k.length ≤ 24) ∧ n.fKids.length = n.fKeys.length ∧ n.fVals.length = 0 ∧ (∀ k ∈ n.fKids, 2 ≤ k ∧ k ≤ 39) ∧ n.fKids.Nodup := by
  simp [nodeOk, h, List.length_eq_zero_iff, and_assoc]
theorem nodup_snoc {α : Type} {l : List α} {i : Nat} {p : α} (h : l[i]? = some p) (hn : (l.take i).Nodup) (hp : p ∉ l.take i) : (l.take (i + 1)).Nodup := by
  rw [take_snoc h]
  exact List.nodup_append.2 ⟨hn, by simp, fun a ha b hb => by simp at hb; subst hb; exact fun e => hp (e ▸ ha)⟩
theorem mem_takeS {α : Type} {l : List α} {i : Nat} {p q : α} (h : l[i]? = some p) (hq : q ∈ l.take (i + 1)) : q ∈ l.take i ∨ q = p := by
  rw [take_snoc h] at hq; simpa using hq
end Go.Rx
namespace Go.Rx
theorem zip_at {α β : Type} {l : List α} {m : List β} {i : Nat} {p : α} {q : β} (hp : l[i]? = some p) (hq : m[i]? = some q) : (l.zip m)[i]? = some (p, q) := by
  rw [List.getElem?_zip_eq_some]; exact ⟨hp, hq⟩
end Go.Rx

namespace Go.Rx
open Go

/-! the reader of a node: where it is, and whether it was not of its form -/
def rdV (t : List UInt8) (most : Int) (r : Nat × Bool) : Nat × (Nat × Bool) := match readVar t r.1 with
  | some (n, a) => if r.2 = true ∨ most < n then (0, (r.1, true)) else (n, (a, false))
  | none => (0, (r.1, true))
def rdT (t : List UInt8) (r : Nat × Bool) : List UInt8 × (Nat × Bool) := match readShort t r.1 with
  | some (s, a) => if r.2 = true then ([], (r.1, true)) else (s, (a, false))
  | none => ([], (r.1, true))

/-- What is left to be read: nothing where it was not of its form. -/
def sfx (t : List UInt8) (r : Nat × Bool) : Option (List UInt8) := if r.2 = true then none else some (t.drop r.1)
theorem rdV_le {t : List UInt8} {m : Int} {r : Nat × Bool} (h : r.1 ≤ t.length) : (rdV t m r).2.1 ≤ t.length := by
  unfold rdV
  split
  · rename_i n a hv
    split
    · exact h
    · exact (readVar_lt hv).2.1
  · exact h
theorem rdT_le {t : List UInt8} {r : Nat × Bool} (h : r.1 ≤ t.length) : (rdT t r).2.1 ≤ t.length := by
  unfold rdT
  split
  · rename_i n a hv
    split
    · exact h
    · exact (readShort_lt hv).2.1
  · exact h
theorem rdV_sfx {t : List UInt8} {most : Nat} {r : Nat × Bool} (h : r.1 ≤ t.length) : match sfx t r with
    | none => (rdV t most r).1 = 0 ∧ sfx t (rdV t most r).2 = none
    | some l => match rv l with
      | none => (rdV t most r).1 = 0 ∧ sfx t (rdV t most r).2 = none
      | some (n, l2) => if n ≤ most then (rdV t most r).1 = n ∧ sfx t (rdV t most r).2 = some l2 else (rdV t most r).1 = 0 ∧ sfx t (rdV t most r).2 = none := by
  obtain ⟨a, b⟩ := r
  simp only at h
  have hs : readVar t (a : Int) = (rv (t.drop a)).map fun r => (r.1, t.length - r.2.length) := by
    unfold readVar; rw [if_pos (by omega), Int.toNat_natCast]
  unfold sfx rdV
  simp only
  rw [hs]
  cases b with
  | true =>
    simp only [if_true]
    cases rv (t.drop a) with
    | none => exact ⟨rfl, rfl⟩
    | some p => exact ⟨by simp, by simp⟩
  | false =>
    simp only [Bool.false_eq_true, if_false, false_or]
    cases hv : rv (t.drop a) with
    | none => exact ⟨rfl, rfl⟩
    | some p =>
      obtain ⟨n, l2⟩ := p
      simp only [Option.map_some]
      obtain ⟨_, h2⟩ := rv_iff.1 hv
      obtain ⟨h3, _, _⟩ := suffix_drop h2 h
      by_cases hn : n ≤ most
      · rw [if_pos hn, if_neg (by omega)]
        exact ⟨rfl, by simp only [Bool.false_eq_true, if_false]; rw [← h3]⟩
      · rw [if_neg hn, if_pos (by omega)]
        exact ⟨rfl, rfl⟩
theorem rdT_sfx {t : List UInt8} {r : Nat × Bool} (h : r.1 ≤ t.length) : match sfx t r with
    | none => (rdT t r).1 = [] ∧ sfx t (rdT t r).2 = none
    | some l => match rs l with
      | none => (rdT t r).1 = [] ∧ sfx t (rdT t r).2 = none
      | some (s, l2) => (rdT t r).1 = s ∧ sfx t (rdT t r).2 = some l2 := by
  obtain ⟨a, b⟩ := r
  simp only at h
  have hs : readShort t (a : Int) = (rs (t.drop a)).map fun p => (p.1, t.length - p.2.length) := by
    cases hv : rs (t.drop a) with
    | some p =>
      obtain ⟨s, l2⟩ := p
      obtain ⟨h1, h2⟩ := rs_iff.1 hv
      obtain ⟨h3, h4, h5⟩ := suffix_drop h2 h
      exact (readShort_some h).2 ⟨h1, by rw [← h3]; exact h2, h4, by simp only; omega⟩
    | none =>
      cases hr : readShort t (a : Int) with
      | none => rfl
      | some p =>
        obtain ⟨s, b⟩ := p
        obtain ⟨h1, h2, _, _⟩ := (readShort_some h).1 hr
        rw [rs_iff.2 ⟨h1, h2⟩] at hv; cases hv
  unfold sfx rdT
  simp only
  rw [hs]
  cases b with
  | true =>
    simp only [if_true]
    cases rs (t.drop a) with
    | none => exact ⟨rfl, rfl⟩
    | some p => exact ⟨rfl, rfl⟩
  | false =>
    simp only [Bool.false_eq_true, if_false]
    cases hv : rs (t.drop a) with
    | none => exact ⟨rfl, rfl⟩
    | some p =>
      obtain ⟨s, l2⟩ := p
      obtain ⟨_, h2⟩ := rs_iff.1 hv
      obtain ⟨h3, _, _⟩ := suffix_drop h2 h
      exact ⟨rfl, by simp only [Option.map_some, Bool.false_eq_true, if_false]; rw [← h3]⟩

/-- One round of a leaf, of a branch. -/
def rdL (t : List UInt8) (r : Nat × Bool) : (List UInt8 × List UInt8) × (Nat × Bool) := (((rdT t r).1, (rdT t (rdT t r).2).1), (rdT t (rdT t r).2).2)
def rdB (t : List UInt8) (most : Int) (r : Nat × Bool) : (List UInt8 × Int) × (Nat × Bool) := (((rdT t r).1, ((rdV t most (rdT t r).2).1 : Int)), (rdV t most (rdT t r).2).2)
def rdLs (t : List UInt8) : Nat → Nat × Bool → List (List UInt8 × List UInt8) × (Nat × Bool)
  | 0, r => ([], r)
  | k + 1, r => ((rdL t r).1 :: (rdLs t k (rdL t r).2).1, (rdLs t k (rdL t r).2).2)
def rdBs (t : List UInt8) (most : Int) : Nat → Nat × Bool → List (List UInt8 × Int) × (Nat × Bool)
  | 0, r => ([], r)
  | k + 1, r => ((rdB t most r).1 :: (rdBs t most k (rdB t most r).2).1, (rdBs t most k (rdB t most r).2).2)
theorem rdL_le {t : List UInt8} {r : Nat × Bool} (h : r.1 ≤ t.length) : (rdL t r).2.1 ≤ t.length := rdT_le (rdT_le h)
theorem rdB_le {t : List UInt8} {m : Int} {r : Nat × Bool} (h : r.1 ≤ t.length) : (rdB t m r).2.1 ≤ t.length := rdV_le (rdT_le h)
theorem rdLs_bad {t : List UInt8} : ∀ {k : Nat} {r : Nat × Bool}, r.1 ≤ t.length → sfx t r = none → sfx t (rdLs t k r).2 = none
  | 0, _, _, h => h
  | k + 1, r, hl, h => by
    have h1 := rdT_sfx hl
    rw [h] at h1
    simp only at h1
    have h2 := rdT_sfx (rdT_le hl)
    rw [h1.2] at h2
    exact rdLs_bad (k := k) (r := (rdL t r).2) (rdL_le hl) h2.2
theorem rdBs_bad {t : List UInt8} {most : Nat} : ∀ {k : Nat} {r : Nat × Bool}, r.1 ≤ t.length → sfx t r = none → sfx t (rdBs t most k r).2 = none
  | 0, _, _, h => h
  | k + 1, r, hl, h => by
    have h1 := rdT_sfx hl
    rw [h] at h1
    simp only at h1
    have h2 := rdV_sfx (most := most) (rdT_le hl)
    rw [h1.2] at h2
    exact rdBs_bad (k := k) (r := (rdB t most r).2) (rdB_le hl) h2.2
/-- The rounds, and what they read. -/
theorem rdLs_pl {t : List UInt8} : ∀ {k : Nat} {r : Nat × Bool} {l : List UInt8}, r.1 ≤ t.length → sfx t r = some l → match pl k l with
    | none => sfx t (rdLs t k r).2 = none
    | some (es, rest) => (rdLs t k r).1 = es ∧ sfx t (rdLs t k r).2 = some rest
  | 0, r, l, _, h => ⟨rfl, h⟩
  | k + 1, r, l, hl, h => by
    have h1 := rdT_sfx hl
    rw [h] at h1
    simp only at h1
    have h2 := rdT_sfx (rdT_le hl)
    simp only [pl]
    cases e1 : rs l with
    | none =>
      rw [e1] at h1
      rw [h1.2] at h2
      exact rdLs_bad (k := k) (r := (rdL t r).2) (rdL_le hl) h2.2
    | some p =>
      obtain ⟨key, l1⟩ := p
      rw [e1] at h1
      rw [h1.2] at h2
      simp only
      simp only at h2
      cases e2 : rs l1 with
      | none =>
        rw [e2] at h2
        exact rdLs_bad (k := k) (r := (rdL t r).2) (rdL_le hl) h2.2
      | some p =>
        obtain ⟨v, l2⟩ := p
        rw [e2] at h2
        simp only
        have h3 := rdLs_pl (k := k) (rdL_le hl) (show sfx t (rdL t r).2 = some l2 from h2.2)
        cases e3 : pl k l2 with
        | none => rw [e3] at h3; exact h3
        | some p =>
          obtain ⟨es, rest⟩ := p
          rw [e3] at h3
          refine ⟨?_, h3.2⟩
          simp only [rdLs, rdL]
          rw [h1.1, h2.1]
          congr 1
          exact h3.1
theorem rdBs_pb {t : List UInt8} {most : Nat} : ∀ {k : Nat} {r : Nat × Bool} {l : List UInt8}, r.1 ≤ t.length → sfx t r = some l → match pb most k l with
    | none => sfx t (rdBs t most k r).2 = none
    | some (es, rest) => (rdBs t most k r).1 = es ∧ sfx t (rdBs t most k r).2 = some rest
  | 0, r, l, _, h => ⟨rfl, h⟩
  | k + 1, r, l, hl, h => by
    have h1 := rdT_sfx hl
    rw [h] at h1
    simp only at h1
    have h2 := rdV_sfx (most := most) (rdT_le hl)
    simp only [pb]
    cases e1 : rs l with
    | none =>
      rw [e1] at h1
      rw [h1.2] at h2
      exact rdBs_bad (k := k) (r := (rdB t most r).2) (rdB_le hl) h2.2
    | some p =>
      obtain ⟨key, l1⟩ := p
      rw [e1] at h1
      rw [h1.2] at h2
      simp only
      simp only at h2
      cases e2 : rv l1 with
      | none =>
        rw [e2] at h2
        exact rdBs_bad (k := k) (r := (rdB t most r).2) (rdB_le hl) h2.2
      | some p =>
        obtain ⟨v, l2⟩ := p
        rw [e2] at h2
        simp only
        simp only at h2
        by_cases hv : v ≤ most
        · rw [if_pos hv] at h2
          rw [if_pos hv]
          have h3 := rdBs_pb (most := most) (k := k) (rdB_le hl) (show sfx t (rdB t most r).2 = some l2 from h2.2)
          cases e3 : pb most k l2 with
          | none => rw [e3] at h3; exact h3
          | some p =>
            obtain ⟨es, rest⟩ := p
            rw [e3] at h3
            refine ⟨?_, h3.2⟩
            simp only [rdBs, rdB]
            rw [h1.1, h2.1]
            congr 1
            exact h3.1
        · rw [if_neg hv] at h2
          rw [if_neg hv]
          exact rdBs_bad (k := k) (r := (rdB t most r).2) (rdB_le hl) h2.2
theorem rdLs_snoc {t : List UInt8} : ∀ {k : Nat} {r : Nat × Bool}, rdLs t (k + 1) r = ((rdLs t k r).1 ++ [(rdL t (rdLs t k r).2).1], (rdL t (rdLs t k r).2).2)
  | 0, r => rfl
  | k + 1, r => by rw [rdLs, rdLs_snoc]; rfl
theorem rdBs_snoc {t : List UInt8} {most : Int} : ∀ {k : Nat} {r : Nat × Bool}, rdBs t most (k + 1) r = ((rdBs t most k r).1 ++ [(rdB t most (rdBs t most k r).2).1], (rdB t most (rdBs t most k r).2).2)
  | 0, r => rfl
  | k + 1, r => by rw [rdBs, rdBs_snoc]; rfl
theorem rdLs_len {t : List UInt8} : ∀ {k : Nat} {r : Nat × Bool}, (rdLs t k r).1.length = k
  | 0, _ => rfl
  | k + 1, r => by simp [rdLs, rdLs_len]
theorem rdBs_len {t : List UInt8} {most : Int} : ∀ {k : Nat} {r : Nat × Bool}, (rdBs t most k r).1.length = k
  | 0, _ => rfl
  | k + 1, r => by simp [rdBs, rdBs_len]
theorem rdLs_le {t : List UInt8} : ∀ {k : Nat} {r : Nat × Bool}, r.1 ≤ t.length → (rdLs t k r).2.1 ≤ t.length
  | 0, _, h => h
  | k + 1, _, h => rdLs_le (k := k) (rdL_le h)
theorem rdBs_le {t : List UInt8} {most : Int} : ∀ {k : Nat} {r : Nat × Bool}, r.1 ≤ t.length → (rdBs t most k r).2.1 ≤ t.length
  | 0, _, h => h
  | k + 1, _, h => rdBs_le (k := k) (rdB_le h)

/-- At the end of the bytes, rightly. -/
theorem sfx_end {t : List UInt8} {r : Nat × Bool} (h : r.1 ≤ t.length) : sfx t r = some [] ↔ r.2 = false ∧ r.1 = t.length := by
  unfold sfx
  cases hb : r.2 with
  | true => simp
  | false => simp; omega
end Go.Rx
namespace Go.Rx
open Go
def runStart (c : UInt8) : Nat × Bool := (1, decide (c.toNat ≠ 108) && decide (c.toNat ≠ 98))
def runLeaf (s : List UInt8) (r : Nat × Bool) : List (List UInt8 × List UInt8) × (Nat × Bool) := rdLs s (rdV s 4 r).1 (rdV s 4 r).2
def runBranch (s : List UInt8) (r : Nat × Bool) : List (List UInt8 × Int) × (Nat × Bool) := rdBs s 40 (rdV s 4 r).1 (rdV s 4 r).2
def runEnd (s : List UInt8) (r : Nat × Bool) (n : GNode) : Option GNode := if r.2 = false ∧ r.1 = s.length ∧ nodeOk n then some n else none
theorem u8_eq {c d : UInt8} : c.toNat = d.toNat ↔ c = d := UInt8.toNat_inj

theorem runEnd_bad {s : List UInt8} {r : Nat × Bool} {n : GNode} (h : sfx s r = none) : runEnd s r n = none := by
  have : r.2 = true := by unfold sfx at h; split at h <;> simp_all
  simp [runEnd, this]
theorem runEnd_some {s : List UInt8} {r : Nat × Bool} {n : GNode} {l : List UInt8} (hl : r.1 ≤ s.length) (h : sfx s r = some l) : runEnd s r n = match l with | [] => if nodeOk n then some n else none | _ => none := by
  cases l with
  | nil =>
    obtain ⟨h1, h2⟩ := (sfx_end hl).1 h
    simp [runEnd, h1, h2]
  | cons x l =>
    have : ¬ (r.2 = false ∧ r.1 = s.length) := fun e => by rw [(sfx_end hl).2 e] at h; cases h
    simp only [runEnd]
    rw [if_neg (fun e => this ⟨e.1, e.2.1⟩)]

theorem readBody_run {c : UInt8} {b : List UInt8} : readBody (c :: b) =
    if c = 108 then runEnd (c :: b) (runLeaf (c :: b) (runStart c)).2 (leafOf (runLeaf (c :: b) (runStart c)).1)
    else runEnd (c :: b) (runBranch (c :: b) (runStart c)).2 (branchOf (runBranch (c :: b) (runStart c)).1) := by
  have hle : (runStart c).1 ≤ (c :: b).length := by simp [runStart]
  have hv := rdV_sfx (most := 4) hle
  have hle2 : (rdV (c :: b) (4 : Nat) (runStart c)).2.1 ≤ (c :: b).length := rdV_le hle
  by_cases hc : c = 108
  · rw [if_pos hc]
    have hs : sfx (c :: b) (runStart c) = some b := by subst hc; rfl
    rw [hs] at hv
    simp only at hv
    simp only [readBody, parseNode]
    rw [if_neg (fun h => h.1 hc)]
    cases h1 : rv b with
    | none =>
      rw [h1] at hv
      simp only at hv
      simp only
      exact (runEnd_bad (rdLs_bad hle2 hv.2)).symm
    | some p =>
      obtain ⟨k, l⟩ := p
      rw [h1] at hv
      simp only at hv
      simp only
      by_cases hk : 4 < k
      · rw [if_neg (by omega)] at hv
        rw [if_pos hk]
        exact (runEnd_bad (rdLs_bad hle2 hv.2)).symm
      · rw [if_pos (by omega)] at hv
        rw [if_neg hk, if_pos hc]
        have h2 := rdLs_pl (k := (rdV (c :: b) (4 : Nat) (runStart c)).1) hle2 hv.2
        rw [hv.1] at h2
        cases h3 : pl k l with
        | none =>
          rw [h3] at h2
          refine (runEnd_bad ?_).symm
          unfold runLeaf
          rw [show rdV (c :: b) 4 (runStart c) = rdV (c :: b) (4 : Nat) (runStart c) from rfl, hv.1]
          exact h2
        | some p =>
          obtain ⟨es, rest⟩ := p
          rw [h3] at h2
          simp only at h2
          have e1 : runLeaf (c :: b) (runStart c) = rdLs (c :: b) k (rdV (c :: b) (4 : Nat) (runStart c)).2 := by
            unfold runLeaf
            rw [show rdV (c :: b) 4 (runStart c) = rdV (c :: b) (4 : Nat) (runStart c) from rfl, hv.1]
          rw [e1, h2.1, runEnd_some (rdLs_le hle2) h2.2]
          cases rest with
          | nil => rfl
          | cons x r => rfl
  · rw [if_neg hc]
    simp only [readBody, parseNode]
    by_cases hc2 : c = 98
    · have hs : sfx (c :: b) (runStart c) = some b := by subst hc2; rfl
      rw [hs] at hv
      simp only at hv
      rw [if_neg (fun h => h.2 hc2)]
      cases h1 : rv b with
      | none =>
        rw [h1] at hv
        simp only at hv
        simp only
        exact (runEnd_bad (rdBs_bad (most := 40) hle2 hv.2)).symm
      | some p =>
        obtain ⟨k, l⟩ := p
        rw [h1] at hv
        simp only at hv
        simp only
        by_cases hk : 4 < k
        · rw [if_neg (by omega)] at hv
          rw [if_pos hk]
          exact (runEnd_bad (rdBs_bad (most := 40) hle2 hv.2)).symm
        · rw [if_pos (by omega)] at hv
          rw [if_neg hk, if_neg hc]
          have h2 := rdBs_pb (most := 40) (k := (rdV (c :: b) (4 : Nat) (runStart c)).1) hle2 hv.2
          rw [hv.1] at h2
          have e1 : runBranch (c :: b) (runStart c) = rdBs (c :: b) (40 : Nat) k (rdV (c :: b) (4 : Nat) (runStart c)).2 := by
            unfold runBranch
            rw [show rdV (c :: b) 4 (runStart c) = rdV (c :: b) (4 : Nat) (runStart c) from rfl, hv.1]
            rfl
          cases h3 : pb 40 k l with
          | none =>
            rw [h3] at h2
            refine (runEnd_bad ?_).symm
            rw [e1]
            exact h2
          | some p =>
            obtain ⟨es, rest⟩ := p
            rw [h3] at h2
            simp only at h2
            rw [e1, h2.1, runEnd_some (rdBs_le hle2) h2.2]
            cases rest with
            | nil => rfl
            | cons x r => rfl
    · have hb : (runStart c).2 = true := by
        simp only [runStart, Bool.and_eq_true, decide_eq_true_eq]
        exact ⟨fun e => hc (u8_eq.1 (by rw [e]; rfl)), fun e => hc2 (u8_eq.1 (by rw [e]; rfl))⟩
      have hs : sfx (c :: b) (runStart c) = none := by unfold sfx; rw [if_pos hb]
      rw [hs] at hv
      simp only at hv
      rw [if_pos ⟨hc, hc2⟩]
      exact (runEnd_bad (rdBs_bad (most := 40) hle2 hv.2)).symm
end Go.Rx
namespace Go.Rx
theorem rdV_most {t : List UInt8} {m : Nat} {r : Nat × Bool} : (rdV t m r).1 ≤ m := by
  unfold rdV
  split
  · split
    · exact Nat.zero_le _
    · rename_i h; simp only at h ⊢; omega
  · exact Nat.zero_le _
end Go.Rx
