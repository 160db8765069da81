/-
  Part of the proof that the abstract evaluator is right about the model's run; each lemma names its conditions.
-/
import Derived.Test.YtedopmfciabdcaaRxSound19
import Derived.Test.YtedopmfciabdcaaRxSoundC
import Derived.Test.YtedopmfciabdcaaRxSoundZ
namespace Go.Rx
open Go Go.RowKit

section
variable {P : Program} {T : Tys} {okIn U : Nat → Prop} {w0 : World} {p : Nat → Prop} {w w' : World} {ok ok' : Nat → Prop} {lam lam' : Nat → Option Nat} {H : Heap} {v0 : V} {u0 : Upd} {cv : Value} {a : Act} {Q : Exit → Act → World → Prop}

/-- What stands behind an operation. -/
def Next1 (okIn U : Nat → Prop) (w0 : World) (p : Nat → Prop) (tb : Nat) (w : World) (ok : Nat → Prop) (lam : Nat → Option Nat) (H : Heap) (a : Act) (dst : Option Nat) (v0 : V) (u0 : Upd) : Act → World → Prop := fun a' w' =>
  ∃ cv lam' ok', a' = a.put dst cv ∧ Eff okIn U w0 p (pX p tb) w ok lam H v0 (updF u0 H) w' cv lam' ok'

theorem wp_value {o : Oper} {tb : Nat} {s : Sem Value} (he : execOp a.eval o = (do pure (.value (← s)))) (hd : Does P okIn U w0 p tb w ok lam H v0 u0 s) :
    o.wp P a w (Next1 okIn U w0 p tb w ok lam H a o.dst v0 u0) Q := by
  obtain ⟨cv, w', lam', ok', hr, hE⟩ := hd
  unfold Oper.wp
  rw [he]
  simp only [Sem.run_bind, hr, Result.andThen_ok, Sem.run_pure, Oper.upon]
  exact ⟨cv, lam', ok', rfl, hE⟩

theorem Quiet.does (h : Ctx okIn U w0 p w ok lam H) {tb : Nat} {g : Prop} (hg : g) {s : Sem Value} (hq : Quiet P w ok lam H p v0 u0 g s) : Does P okIn U w0 p tb w ok lam H v0 u0 s := by
  obtain ⟨cv, hr, rfl, hv, hgd⟩ := hq
  exact ⟨cv, w, lam, ok, hr, Eff.quiet h (fun _ h => .inl h) hv (hgd hg)⟩

theorem onSome_inv {α : Type} {o : Option α} {F : α → Prop} (h : onSome o F) : ∃ x, o = some x ∧ F x := by
  cases o with
  | none => exact h.elim
  | some x => exact ⟨x, rfl, h⟩

theorem onBox_inv {o : Option AObj} {F : List V → Prop} (h : onBox o F) : ∃ c, o = some (.box c) ∧ F c := by
  cases o with
  | none => exact h.elim
  | some x => cases x with
    | box c => exact ⟨c, rfl, h⟩
    | arr m xs => exact h.elim

theorem onArr_inv {o : Option AObj} {F : Nat → List (List D) → Prop} (h : onArr o F) : ∃ m xs, o = some (.arr m xs) ∧ F m xs := by
  cases o with
  | none => exact h.elim
  | some x => cases x with
    | box c => exact h.elim
    | arr m xs => exact ⟨m, xs, rfl, h⟩

theorem cells_good {x : V} {cs : List V} (h : x.cells = some cs) (hg : VGood p x) : ∀ v ∈ cs, VGood p v := by
  intro v hv
  cases x <;> simp only [V.cells] at h <;> first
    | (simp at h; done)
    | (simp at h; subst h; simp at hv; subst hv; exact hg)
    | (simp at h; subst h; cases hg with | agg hg => exact hg v hv)
    | skip
  rename_i y
  cases y <;> simp only at h <;> first
    | (simp at h; done)
    | (simp at h; subst h; simp at hv; obtain ⟨z, _, rfl⟩ := hv; exact .d _)
    | (simp at h; subst h; simp at hv; subst hv; exact hg)

theorem isU8_und (hT : TyOK P T) {e : Nat} (h : isU8 (T e) = true) : P.underlying e = some (.int .u8) := by
  unfold isU8 at h
  split at h
  · rename_i a b z hTe
    obtain ⟨info, d, zz, ht⟩ := hT e _ hTe
    have := kindOK_int ht.kind
    subst this
    exact ht.und
  · simp at h

theorem und_of (hT : TyOK P T) {t : Nat} {i : TI} (h : T t = some i) : ∃ d, P.underlying t = some d ∧ kindOK d i.kind := by
  obtain ⟨info, d, z, ht⟩ := hT t i h
  exact ⟨d, ht.und, ht.kind⟩

theorem conv_does (hT : TyOK P T) (h : Ctx okIn U w0 p w ok lam H) {tb : Nat} (hf : Fresh p tb) {src dst : Nat} {x : V} {xv : Value} (hx : VRel w ok lam H x xv) (hv : convVC H tb (convK (T src) (T dst) T) x (eqK v0 u0)) :
    Does P okIn U w0 p tb w ok lam H v0 u0 (convert src dst xv) := by
  cases hs : T src with
  | none => rw [hs] at hv; simp [convK, convVC] at hv
  | some si =>
    cases hd : T dst with
    | none => rw [hs, hd] at hv; simp [convK, convVC] at hv
    | some di =>
      obtain ⟨ds, us, ks⟩ := und_of hT hs
      obtain ⟨dd, ud, kd⟩ := und_of hT hd
      rw [hs, hd] at hv
      obtain ⟨s1, s2, sk, s4⟩ := si
      obtain ⟨d1, d2, dk, d4⟩ := di
      simp only at ks kd
      cases sk with
      | int k0 =>
        cases dk with
        | int k =>
          simp only [convK] at hv
          obtain rfl := kindOK_int ks
          obtain rfl := kindOK_int kd
          cases x with
          | d y => cases y with
            | int k1 n =>
              simp only [convVC] at hv
              obtain ⟨rfl, rfl⟩ := hv
              cases hx.inv_d
              exact Quiet.does (g := True) h trivial ⟨.int k (k.wrap n), by simp [convert, run_underlying us, run_underlying ud, Conv.intToInt], rfl, .d (.int _ _), fun _ => .d _⟩
            | _ => simp [convVC] at hv
          | _ => simp [convVC] at hv
        | _ => simp [convK, convVC] at hv
      | str =>
        obtain rfl := kindOK_str ks
        cases dk with
        | str =>
          obtain rfl := kindOK_str kd
          simp only [convK] at hv
          cases x with
          | d y => cases y with
            | str s =>
              simp only [convVC] at hv
              obtain ⟨rfl, rfl⟩ := hv
              cases hx.inv_d with | str _ hm =>
              exact Quiet.does (g := True) h trivial ⟨.string ⟨⟨s⟩⟩, by simp [convert, run_underlying us, run_underlying ud], rfl, .d (.str _ hm), fun _ => .d _⟩
            | _ => simp [convVC] at hv
          | _ => simp [convVC] at hv
        | slice e =>
          obtain rfl := kindOK_slice kd
          simp only [convK] at hv
          cases hu8 : isU8 (T e) with
          | false => rw [hu8] at hv; simp [convVC] at hv
          | true =>
            rw [hu8] at hv
            simp only [cond_true] at hv
            cases x with
            | d y => cases y with
              | str s =>
                simp only [convVC] at hv
                obtain ⟨hm, rfl, rfl⟩ := hv
                cases hx.inv_d with | str _ _ =>
                exact strBytes_eff h hf hm us ud (isU8_und hT hu8)
              | _ => simp [convVC] at hv
            | _ => simp [convVC] at hv
        | _ => simp [convK, convVC] at hv
      | slice e =>
        obtain rfl := kindOK_slice ks
        cases dk with
        | str =>
          obtain rfl := kindOK_str kd
          simp only [convK] at hv
          cases hu8 : isU8 (T e) with
          | false => rw [hu8] at hv; simp [convVC] at hv
          | true =>
            rw [hu8] at hv
            simp only [cond_true] at hv
            have hv : onSome (slOf (toD H x)) fun xs => (xs.map byteOf).map byteCell = xs ∧ eqK v0 u0 (.d (.str (xs.map byteOf))) [] := by
              cases x with
              | d y => cases y <;> exact hv
              | _ => exact hv
            obtain ⟨xs, hxs, he, rfl, rfl⟩ := onSome_inv hv
            cases htd : toD H x with
            | none => rw [htd] at hxs; simp [slOf] at hxs
            | some q =>
              obtain ⟨dd, ls⟩ := q
              rw [htd] at hxs
              cases dd with
              | sl ys =>
                simp [slOf] at hxs
                subst hxs
                have hd := toD_sound h.hok hx htd
                rw [← he] at hd
                obtain ⟨hr, hm⟩ := bytes_sound us (isU8_und hT hu8) ud hd
                exact Quiet.does (g := True) h trivial ⟨_, hr, rfl, .d (.str _ hm), fun _ => .d _⟩
              | _ => simp [slOf] at hxs
        | _ => simp [convK, convVC] at hv
      | _ => simp [convK, convVC] at hv

theorem rel_args {ρ : Operand → V} (henv : ∀ x, VRel w ok lam H (ρ x) (a.eval x)) (xs : Array Operand) : Rel2 (VRel w ok lam H) (xs.toList.map ρ) (xs.map a.eval).toList := by
  refine ⟨by simp, fun i x y hx hy => ?_⟩
  rw [List.getElem?_map] at hx
  simp only [Array.toList_map, List.getElem?_map] at hy
  cases hxi : xs.toList[i]? with
  | none => rw [hxi] at hx; simp at hx
  | some z => rw [hxi] at hx hy; simp at hx hy; subst hx; subst hy; exact henv z

theorem rel_parts {ρ : Operand → V} (henv : ∀ x, VRel w ok lam H (ρ x) (a.eval x)) (xs : Array (Nat × Operand)) :
    Rel2 (fun a b => a.1 = b.1 ∧ VRel w ok lam H a.2 b.2) (xs.toList.map fun q => (q.1, ρ q.2)) (xs.map fun (i, x) => (i, a.eval x)).toList := by
  refine ⟨by simp, fun i x y hx hy => ?_⟩
  rw [List.getElem?_map] at hx
  simp only [Array.toList_map, List.getElem?_map] at hy
  cases hxi : xs.toList[i]? with
  | none => rw [hxi] at hx; simp at hx
  | some z => rw [hxi] at hx hy; simp at hx hy; subst hx; subst hy; exact ⟨rfl, henv z.2⟩

theorem orel {ρ : Operand → V} (henv : ∀ x, VRel w ok lam H (ρ x) (a.eval x)) (o : Option Operand) : ORel w ok lam H (o.map ρ) (o.map a.eval) := by
  cases o with
  | none => trivial
  | some x => exact henv x

theorem call_wp (h : Ctx okIn U w0 p w ok lam H) {o : Oper} {tb : Nat} (hf : Fresh p tb) {f : FuncId} {args : List V} {vs : List Value} (hargs : Rel2 (VRel w ok lam H) args vs)
    (he : (execOp a.eval o).run P w = .ok (.enter f ⟨vs⟩) w) (hv : callVC P H tb f args (eqK v0 u0)) : o.wp P a w (Next1 okIn U w0 p tb w ok lam H a o.dst v0 u0) Q := by
  unfold Oper.wp
  rw [he, Oper.upon_enter]
  refine (call_eff h hf hargs hv).mono ?_
  rintro e w' ⟨cv, lam', ok', rfl, hE⟩
  exact ⟨cv, lam', ok', rfl, hE⟩

theorem callFunc_run {f : FuncId} {vs : Array Value} (h : Known P f) : (callFunc f vs).run P w = .ok (.enter f vs) w := by
  obtain ⟨fn, h1, h2, h3⟩ := h
  unfold callFunc
  simp only [Sem.run_bind, run_program, Result.andThen_ok, h1, h2, Bool.false_eq_true, if_false, h3, Sem.run_pure]

theorem callVC_known {tb : Nat} {f : FuncId} {args : List V} {K : OK} (h : callVC P H tb f args K) : Known P f := by
  obtain ⟨ms, as, ps, bs, outs, res, H2, _, _, hok, _⟩ := h
  exact hok.1

set_option maxHeartbeats 1000000 in
theorem op_sound (hT : TyOK P T) (h : Ctx okIn U w0 p w ok lam H) {i : Nat} (hf : Fresh p (1000 * (i + 1))) {o : Oper} {ρ : Operand → V}
    (henv : ∀ x, VRel w ok lam H (ρ x) (a.eval x)) (hgood : ∀ x, VGood p (ρ x)) (hop : opVC T P i o ρ H (eqK v0 u0)) :
    o.wp P a w (Next1 okIn U w0 p (1000 * (i + 1)) w ok lam H a o.dst v0 u0) Q := by
  have move : ∀ (x : Operand) (he : execOp a.eval o = pure (.value (a.eval x))), moveVC T (1000 * (i + 1)) o.type (ρ x) (eqK v0 u0) → o.wp P a w (Next1 okIn U w0 p (1000 * (i + 1)) w ok lam H a o.dst v0 u0) Q := by
    intro x he hm
    have hx := henv x
    have plain : v0 = ρ x ∧ u0 = [] → o.wp P a w (Next1 okIn U w0 p (1000 * (i + 1)) w ok lam H a o.dst v0 u0) Q := by
      rintro ⟨rfl, rfl⟩
      exact wp_value (s := pure (a.eval x)) (by rw [he]; rfl) (Quiet.does h (g := VGood p (ρ x)) (hgood x) ⟨_, rfl, rfl, hx, fun hg => hg⟩)
    cases hρ : ρ x with
    | nils =>
      rw [hρ] at hm
      simp only [moveVC] at hm
      cases he2 : elemT T o.type with
      | none => rw [he2] at hm; simp only [moveNil] at hm; exact plain ⟨by rw [hρ]; exact hm.1.symm, hm.2.symm⟩
      | some e =>
        rw [he2] at hm
        simp only [moveNil] at hm
        obtain ⟨rfl, rfl⟩ := hm
        rw [hρ] at hx
        have hxe : a.eval x = .slice none 0 0 := by generalize a.eval x = y at hx; cases hx; rfl
        obtain ⟨lam', ok', hE⟩ := moveNil_eff (m := sizeOfT T e) h hf
        exact wp_value (s := pure (a.eval x)) (by rw [he]; rfl) ⟨_, w, lam', ok', rfl, by rw [hxe]; exact hE⟩
    | _ => rw [hρ] at hm; simp only [moveVC] at hm; exact plain ⟨by rw [hρ]; exact hm.1.symm, hm.2.symm⟩
  obtain ⟨dst, op, ty, pos, after, guard⟩ := o
  cases op with
  | move x =>
    obtain ⟨rfl, rfl⟩ := hop
    exact wp_value (s := pure (a.eval x)) rfl (Quiet.does h (g := VGood p (ρ x)) (hgood x) ⟨_, rfl, rfl, henv x, fun hg => hg⟩)
  | assign x => exact move x rfl hop
  | pick c x y =>
    refine wp_value (s := do pure (if ← asBool (a.eval c) then a.eval x else a.eval y)) ?_ (Quiet.does h ⟨hgood x, hgood y⟩ (pick_sound (henv c) (henv x) (henv y) hop))
    simp [execOp]
  | alloc e =>
    obtain ⟨ti, hte, hz, hs, rfl, rfl⟩ := onSome_inv hop
    obtain ⟨info, d, z, ht⟩ := hT e ti hte
    obtain ⟨lam', ok', hE⟩ := newBox_eff (tb := 1000 * (i + 1)) (zs := ti.zero) (Te := e) h hf (zeroV_rel ht.zrel) (zeroV_good _) (by rw [zeroV_length]; omega)
    refine wp_value (s := Instr.alloc e true (.tuple #[])) rfl ⟨_, _, lam', ok', ?_, hE⟩
    simp [Instr.alloc, ht.run_zero, newVar, newRow]
  | box e x =>
    obtain ⟨ti, hte, hb⟩ := onSome_inv hop
    obtain ⟨vs, hc, hl, hs, rfl, rfl⟩ := onSome_inv hb
    obtain ⟨lam', ok', hE⟩ := newBox_eff (tb := 1000 * (i + 1)) (zs := ti.zero) (Te := e) h hf (V.cells_sound (henv x) hc) (cells_good hc (hgood x)) (by omega)
    refine wp_value (s := Instr.box e (a.eval x)) rfl ⟨_, _, lam', ok', ?_, hE⟩
    simp [Instr.box, newVar, newRow]
  | build t parts =>
    obtain ⟨⟨fs, n, zs⟩, hst, hzn, hall, hb⟩ := onSome_inv hop
    obtain ⟨cs, hcs, rfl, rfl⟩ := onSome_inv hb
    exact wp_value (s := Instr.build t (parts.map fun (i, x) => (i, a.eval x))) rfl (Quiet.does h (fun q hq => by
      obtain ⟨y, _, rfl⟩ := List.mem_map.1 hq; exact hgood y.2) (build_sound hT hst hzn hall (rel_parts henv parts) hcs ⟨rfl, rfl⟩))
  | buildSlice t len parts =>
    obtain ⟨ti, hti, hl⟩ := onSome_inv hop
    exact wp_value (s := Instr.buildSlice t len (parts.map fun (i, x) => (i, a.eval x))) rfl (lit_eff hT h hf hti (rel_parts henv parts) hl)
  | load t x =>
    obtain ⟨cv, hr, rfl, hv, hg⟩ := load_sound (q := p) hT h.hok (henv x) hop
    exact wp_value (s := Instr.loadAt t (a.eval x)) rfl (Quiet.does (g := True) h trivial ⟨cv, hr, rfl, hv, fun _ => hg h.good⟩)
  | store t x y =>
    obtain ⟨ti, hTt, hs⟩ := onSome_inv hop
    obtain ⟨vs, hc, hl, hsm, hone, hst⟩ := onSome_inv hs
    have hx := henv x
    have key : ∀ w', (Instr.storeAt t (a.eval x) (a.eval y)).run P w = .ok () w' → ∀ lam' ok', Eff okIn U w0 p (pX p (1000 * (i + 1))) w ok lam H v0 (updF u0 H) w' undef lam' ok' →
        Oper.wp P ⟨dst, .store t x y, ty, pos, after, guard⟩ a w (Next1 okIn U w0 p (1000 * (i + 1)) w ok lam H a dst v0 u0) Q := by
      intro w' hr lam' ok' hE
      unfold Oper.wp
      have : (execOp a.eval ⟨dst, .store t x y, ty, pos, after, guard⟩).run P w = .ok .skip w' := by simp [execOp, hr]
      rw [this]
      exact ⟨undef, lam', ok', rfl, hE⟩
    cases hρ : ρ x with
    | ref n off =>
      rw [hρ] at hst hx
      obtain ⟨cells, hn, hle, rfl, rfl⟩ := onBox_inv hst
      obtain ⟨w', lam', ok', hr, hE⟩ := storeRef_eff (P := P) hT h hf hTt (henv y) hc (cells_good hc (hgood y)) hl hsm hone hx hn hle
      exact key w' hr lam' ok' hE
    | el n i' j =>
      rw [hρ] at hst hx
      obtain ⟨m, xs, hn, hst⟩ := onArr_inv hst
      obtain ⟨⟨ds, ls⟩, hcd, hi, hj, hls, rfl, rfl⟩ := onSome_inv hst
      obtain ⟨w', lam', ok', hr, hE⟩ := storeEl_eff (P := P) (tb := 1000 * (i + 1)) hT h hTt (henv y) hc hl hone hx hn hcd hi hj (by simpa using hls)
      exact key w' hr lam' ok' hE
    | _ => rw [hρ] at hst; simp [storeTo] at hst
  | nilCheck x =>
    obtain ⟨rfl, rfl, hcase⟩ := nil_sound (henv x) hop
    refine wp_value (s := pure (a.eval x)) ?_ (Quiet.does h (g := VGood p (ρ x)) (hgood x) ⟨_, rfl, rfl, henv x, fun hg => hg⟩)
    rcases hcase with ⟨A, hA⟩ | ⟨f, y, z, hA⟩ <;> simp [execOp, hA]
  | binOp op t x y u =>
    exact wp_value (s := binRun op t x y (a.eval x) (a.eval y)) rfl (Quiet.does (g := True) h trivial (bin_sound hT (henv x) (henv y) hop))
  | unOp op t x => exact wp_value (s := Op.unary op (a.eval x)) rfl (Quiet.does (g := True) h trivial (un_sound (henv x) hop))
  | convert s d x => exact wp_value (s := convert s d (a.eval x)) rfl (conv_does hT h hf (henv x) hop)
  | makeFunc fn first captured =>
    cases fn with
    | func f =>
      obtain ⟨h0, rfl, rfl⟩ := hop
      have hfi : first = #[] := by cases first; simp at h0; simp [h0]
      subst hfi
      have hr := rel_args henv captured
      have hcl := VRel.clo (f := f) hr.1 hr.2
      have hev : (⟨(captured.map a.eval).toList⟩ : Array Value) = captured.map a.eval := rfl
      rw [hev] at hcl
      exact wp_value (s := Instr.makeFunc (.func f) (#[].map a.eval) (captured.map a.eval)) rfl (Quiet.does (g := True) h trivial ⟨_, by simp [Instr.makeFunc], rfl, hcl, fun _ => .clo fun v hv => by obtain ⟨y, _, rfl⟩ := List.mem_map.1 hv; exact hgood y⟩)
    | _ => exact hop.elim
  | makeSlice t l c =>
    obtain ⟨ti, hti, hm⟩ := onSome_inv hop
    exact wp_value (s := Instr.makeSlice t (a.eval l) (a.eval c)) rfl (make_eff hT h hf hti (henv l) (henv c) hm)
  | slice t x lo hi mx =>
    exact wp_value (s := Instr.sliceAt t (a.eval x) (lo.map a.eval) (hi.map a.eval) (mx.map a.eval)) rfl (Quiet.does h (hgood x) (slice_sound hT (henv x) (orel henv lo) (orel henv hi) (orel henv mx) hop))
  | fieldAddr t x f =>
    obtain ⟨⟨off, ft⟩, hfo, hpos, hfa⟩ := onSome_inv hop
    exact wp_value (s := Instr.fieldAt t (a.eval x) f) rfl (Quiet.does h (hgood x) (fa_sound hT hfo hpos (henv x) hfa))
  | field t x f =>
    obtain ⟨⟨off, ft⟩, hfo, hfv⟩ := onSome_inv hop
    exact wp_value (s := Instr.field t (a.eval x) f) rfl (Quiet.does h (hgood x) (field_sound hT hfo (henv x) hfv))
  | indexAddr t x y => exact wp_value (s := Instr.indexAt t (a.eval x) (a.eval y)) rfl (Quiet.does h (hgood x) (index_sound hT (henv x) (henv y) hop))
  | index t x y =>
    obtain ⟨hs, hi⟩ := hop
    exact wp_value (s := Instr.index t (a.eval x) (a.eval y)) rfl (Quiet.does (g := True) h trivial (strIx_sound hT hs (henv x) (henv y) hi))
  | extract x n => exact wp_value (s := Instr.extract (a.eval x) n) rfl (Quiet.does h (hgood x) (ext_sound (henv x) hop))
  | call c =>
    obtain ⟨callee, args, argTypes⟩ := c
    have hra := rel_args henv args
    have direct : ∀ (x : Operand) (f : FuncId) (cs : List V) (cvs : List Value), a.eval x = .func (.func f) #[] ⟨cvs⟩ → Rel2 (VRel w ok lam H) cs cvs → callVC P H (1000 * (i + 1)) f (args.toList.map ρ ++ cs) (eqK v0 u0) →
        Oper.wp P ⟨dst, .call ⟨.value x, args, argTypes⟩, ty, pos, after, guard⟩ a w (Next1 okIn U w0 p (1000 * (i + 1)) w ok lam H a dst v0 u0) Q := by
      intro x f cs cvs hx hcs hv
      refine call_wp (vs := (args.map a.eval).toList ++ cvs) h hf (hra.append hcs) ?_ hv
      simp only [execOp, resolve, hx, Deferred.ofValue, Sem.run_bind, Sem.run_pure, Result.andThen_ok, invoke]
      rw [callFunc_run (callVC_known hv)]
      congr 2
      apply Array.ext'
      simp
    cases callee with
    | builtin b =>
      have hop : builtinVC T H (1000 * (i + 1)) b argTypes.toList (args.toList.map ρ) (eqK v0 u0) := hop
      have he : ∃ cs, execOp a.eval ⟨dst, .call ⟨.builtin b, args, argTypes⟩, ty, pos, after, guard⟩ = builtin b argTypes ty cs (args.map a.eval) := by
        simp only [execOp, resolve, pure_bind, invoke]
        exact ⟨_, rfl⟩
      obtain ⟨cs, he⟩ := he
      have hal : ∀ l, args.toList.map ρ = l → l.length = (args.map a.eval).size := fun l hl => by rw [← hl]; simp
      generalize hm : args.toList.map ρ = l at hop hra
      have hsz := hal l hm
      obtain ⟨vs, hvs⟩ : ∃ vs, args.map a.eval = ⟨vs⟩ := ⟨_, rfl⟩
      rw [hvs] at he hra
      simp only at hra
      cases l with
      | nil => simp [builtinVC] at hop
      | cons x l =>
        obtain ⟨xv, rest, rfl, hx, hrest⟩ := hra.uncons
        cases l with
        | nil =>
          obtain rfl := hrest.nil_left
          cases b <;> simp only [builtinVC] at hop
          case len =>
            cases hat : argTypes.toList.head? with
            | none => rw [hat] at hop; simp at hop; cases x <;> first | (simp [lenVC, isStr, isSl, Req] at hop; done) | (rename_i y; cases y <;> simp [lenVC, isStr, isSl, Req] at hop)
            | some t =>
              rw [hat] at hop
              simp only [Option.bind_some] at hop
              have ht0 : argTypes[0]? = some t := by rw [← Array.getElem?_toList, ← List.head?_eq_getElem?]; exact hat
              exact wp_value (s := Builtin.len_ argTypes ty #[xv]) (by rw [he]; rfl) (Quiet.does (g := True) h trivial (len_sound hT ht0 hx hop))
          case clear =>
            obtain ⟨ti, hti, hop⟩ := onSome_inv hop
            cases hat : argTypes.toList.head? with
            | none => rw [hat] at hti; simp at hti
            | some t =>
              rw [hat] at hti
              simp only [Option.bind_some] at hti
              have ht0 : argTypes[0]? = some t := by rw [← Array.getElem?_toList, ← List.head?_eq_getElem?]; exact hat
              exact wp_value (s := Builtin.clear_ argTypes ty #[xv]) (by rw [he]; rfl) (clear_does hT h ht0 hti hx hop)
        | cons y l =>
          obtain ⟨yv, rest, rfl, hy, hrest⟩ := hrest.uncons
          cases l with
          | cons z l => simp [builtinVC] at hop
          | nil =>
            obtain rfl := hrest.nil_left
            cases b <;> simp only [builtinVC] at hop
            case append =>
              cases hint : isIntT T argTypes.toList[1]? with
              | true =>
                simp only [appendVC] at hop
                rw [hint] at hop
                obtain ⟨e, hbe, hop2⟩ := onSome_inv (hop : onSome _ _)
                obtain ⟨ti, hti, hop3⟩ := onSome_inv hop2
                obtain ⟨_ | ⟨t1, ts⟩⟩ := argTypes
                · simp at hbe
                · simp at hbe
                  cases ts with
                  | nil => simp [isIntT] at hint
                  | cons t2 ts =>
                    obtain ⟨it, hTt, hkt⟩ := elemT_some hbe
                    obtain ⟨info, d, z, ht⟩ := hT t1 it hTt
                    obtain rfl : d = .slice e := kindOK_slice (hkt ▸ ht.kind)
                    obtain ⟨infoe, de, ze, hte⟩ := hT e ti hti
                    obtain ⟨cv, w', lam', ok', hr, hE⟩ := appZ_eff (rty := ty) (tx := t2) hT h hf ht hte hx hy (by simpa using hint) hop3
                    refine wp_value (s := Builtin.append_ ⟨t1 :: t2 :: ts⟩ ty #[xv, yv]) (by rw [he]; rfl) ⟨cv, w', lam', ok', ?_, hE⟩
                    rw [← hr]
                    unfold Builtin.append_
                    rfl
              | false =>
              simp only [appendVC] at hop
              rw [hint] at hop
              obtain ⟨hst, hop1⟩ := (hop : Req _ _)
              obtain ⟨e, hbe, hop2⟩ := onSome_inv hop1
              obtain ⟨ti, hti, hop3⟩ := onSome_inv hop2
              obtain ⟨ys, hys, hop4⟩ := onSome_inv hop3
              obtain ⟨_ | ⟨t1, ts⟩⟩ := argTypes
              · simp at hbe
              · simp at hbe
                cases ts with
                | nil => simp [srcTy] at hst
                | cons t2 ts =>
                  obtain ⟨it, hTt, hkt⟩ := elemT_some hbe
                  obtain ⟨info, d, z, ht⟩ := hT t1 it hTt
                  obtain rfl : d = .slice e := kindOK_slice (hkt ▸ ht.kind)
                  obtain ⟨infoe, de, ze, hte⟩ := hT e ti hti
                  have hd := appTo_eff (rty := ty) (tx := t2) hT h hf ht hte hx hy hys (by simpa using hst) hop4
                  refine wp_value (s := Builtin.append_ ⟨t1 :: t2 :: ts⟩ ty #[xv, yv]) (by rw [he]; rfl) ?_
                  obtain ⟨cv, w', lam', ok', hr, hE⟩ := hd
                  refine ⟨cv, w', lam', ok', ?_, hE⟩
                  rw [← hr]
                  unfold Builtin.append_
                  rfl
            case min =>
              obtain ⟨v, hv, rfl, rfl⟩ := onSome_inv hop
              exact wp_value (s := Builtin.min_ argTypes ty #[xv, yv]) (by rw [he]; rfl) (Quiet.does (g := True) h trivial (min_sound hx hy hv ⟨rfl, rfl⟩))
            case max =>
              obtain ⟨v, hv, rfl, rfl⟩ := onSome_inv hop
              exact wp_value (s := Builtin.max_ argTypes ty #[xv, yv]) (by rw [he]; rfl) (Quiet.does (g := True) h trivial (max_sound hx hy hv ⟨rfl, rfl⟩))
    | value x =>
      have tmp : calleeVC P H (1000 * (i + 1)) (args.toList.map ρ) (ρ x) (eqK v0 u0) → Oper.wp P ⟨dst, .call ⟨.value x, args, argTypes⟩, ty, pos, after, guard⟩ a w (Next1 okIn U w0 p (1000 * (i + 1)) w ok lam H a dst v0 u0) Q := by
        intro hv
        have hx := henv x
        generalize hρ : ρ x = y at hv hx
        cases y with
        | d z =>
          cases z with
          | clo f cs =>
            generalize hev : a.eval x = av at hx
            cases hx.inv_d with | clo _ _ vs hl hd =>
            exact direct x f _ vs hev (Rel2.dV ⟨hl, hd⟩) hv
          | _ => simp [calleeVC] at hv
        | clo f cs =>
          generalize hev : a.eval x = av at hx
          cases hx with | clo hl hd =>
          exact direct x f _ _ hev ⟨hl, hd⟩ hv.2
        | _ => simp [calleeVC] at hv
      cases x with
      | func f =>
        have hop' : callVC P H (1000 * (i + 1)) f (args.toList.map ρ) (eqK v0 u0) := hop
        exact direct (.func f) f [] [] rfl (Rel2.nil _) (by rw [List.append_nil]; exact hop')
      | tmp t => exact tmp hop
      | const v => exact tmp hop
      | global g => exact tmp hop
    | invoke r m => exact hop.elim
  | _ => exact hop.elim

end
end Go.Rx
