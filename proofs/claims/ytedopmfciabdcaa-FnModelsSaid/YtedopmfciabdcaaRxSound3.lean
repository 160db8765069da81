/-
  Part of the proof that the abstract evaluator is right about the model's run; each lemma names its conditions.
-/
import Derived.Test.YtedopmfciabdcaaRxSound2
namespace Go.Rx
open Go Go.RowKit

section
variable {P : Program} {T : Tys} {w : World} {ok : Nat → Prop} {lam : Nat → Option Nat} {H : Heap} {q : Nat → Prop} {v0 : V} {u0 : Upd}

/-- What a quiet operation comes to. -/
def Quiet (P : Program) (w : World) (ok : Nat → Prop) (lam : Nat → Option Nat) (H : Heap) (q : Nat → Prop) (v0 : V) (u0 : Upd) (g : Prop) (s : Sem Value) : Prop :=
  ∃ cv, s.run P w = .ok cv w ∧ u0 = [] ∧ VRel w ok lam H v0 cv ∧ (g → VGood q v0)

theorem fieldOff_some {t f off ft : Nat} (hT : TyOK P T) (h : fieldOff T t f = some (off, ft)) :
    ∃ i info fs z fld, T t = some i ∧ TyAt P t i info (.struct fs) z ∧ fs[f]? = some fld ∧ fld.offset = off ∧ fld.type = ft := by
  unfold fieldOff at h
  split at h
  · rename_i a b fs z hi
    obtain ⟨info, d, zz, ht⟩ := hT t _ hi
    obtain ⟨fl, rfl, hfl⟩ := kindOK_struct ht.kind
    rw [← hfl, List.getElem?_map] at h
    cases hx : fl.toList[f]? with
    | none => simp [hx] at h
    | some fld => simp [hx] at h; exact ⟨_, info, fl, zz, fld, hi, ht, by simpa using hx, h.1, h.2⟩
  · simp at h

theorem fieldAt_run {t f off ft : Nat} (hT : TyOK P T) (h : fieldOff T t f = some (off, ft)) (hp : 0 < sizeOfT T ft) (b o : Nat) :
    (Instr.fieldAt t (.pointer (some ⟨b, o, none⟩)) f).run P w = .ok (.pointer (some ⟨b, o + off, none⟩)) w := by
  obtain ⟨i, info, fs, z, fld, hTt, ht, hf, rfl, rfl⟩ := fieldOff_some hT h
  obtain ⟨i2, info2, d2, z2, hT2, ht2, hs2⟩ := sizeOfT_pos hT hp
  have hne : i2.size ≠ 0 := by omega
  have ha : (⟨b, o, none⟩ : Addr).add fld.offset = ⟨b, o + fld.offset, none⟩ := Addr.add_mid b o fld.offset
  simp [Instr.fieldAt, ht.run_und, hf, Instr.sureAddr, fieldPlace, ht2.run_sizeOf, hne, ha]

theorem fa_sound (hT : TyOK P T) {t f off ft : Nat} (hf : fieldOff T t f = some (off, ft)) (hp : 0 < sizeOfT T ft) {x : V} {xv : Value} (hx : VRel w ok lam H x xv)
    (h : faVC H off x (eqK v0 u0)) : Quiet P w ok lam H q v0 u0 (VGood q x) (Instr.fieldAt t xv f) := by
  cases x with
  | ref n o =>
    simp only [faVC] at h
    cases hn : H n with
    | none => simp [hn, onObj] at h
    | some ob =>
      simp only [hn, onObj] at h
      obtain ⟨rfl, rfl⟩ := h
      cases hx with | ref _ hx =>
      obtain ⟨b, hb, rfl⟩ := hx _ hn
      exact ⟨_, fieldAt_run hT hf hp b o, rfl, .ref ⟨_, rfl⟩ fun o' ho' => ⟨b, hb, rfl⟩, fun hg => by cases hg with | ref hg => exact .ref hg⟩
  | el n i j =>
    simp only [faVC] at h
    cases hn : H n with
    | none => simp [hn, onArr] at h
    | some ob =>
      cases ob with
      | box c => simp [hn, onArr] at h
      | arr m xs =>
        simp only [hn, onArr] at h
        obtain ⟨rfl, rfl⟩ := h
        cases hx with | el _ hx =>
        obtain ⟨hi, b, hb, rfl⟩ := hx _ _ hn
        refine ⟨_, fieldAt_run hT hf hp b _, rfl, .el ⟨_, rfl⟩ fun m' xs' ho' => ?_, fun hg => by cases hg with | el hg => exact .el hg⟩
        rw [hn] at ho'; cases ho'
        exact ⟨hi, b, hb, by rw [Nat.add_assoc]⟩
  | d x =>
    cases x with
    | ptr cs =>
      simp only [faVC] at h
      obtain ⟨rfl, rfl⟩ := h
      cases hx.inv_d with | ptr _ b o f' hb hv hd =>
      refine ⟨_, fieldAt_run hT hf hp b o, rfl, .d (.ptr _ b (o + off) (fun j => f' (off + j)) hb (fun j d hj => ?_) (fun j d hj => ?_)), fun _ => .d _⟩
      · rw [List.getElem?_drop] at hj; rw [Nat.add_assoc]; exact hv _ d hj
      · rw [List.getElem?_drop] at hj; exact hd _ d hj
    | _ => simp [faVC] at h
  | _ => simp [faVC] at h

theorem index_sound (hT : TyOK P T) {t : Nat} {x i : V} {xv iv : Value} (hx : VRel w ok lam H x xv) (hi : VRel w ok lam H i iv)
    (h : indexVC T H (elemT T t) x i (eqK v0 u0)) : Quiet P w ok lam H q v0 u0 (VGood q x) (Instr.indexAt t xv iv) := by
  have key : ∀ e i' info' d' z' k n A len cap, elemT T t = some e → TyAt P e i' info' d' z' → iv = .int k n → xv = .slice (some A) len cap → 0 ≤ n → n < len →
      (Instr.indexAt t xv iv).run P w = .ok (.pointer (some (A.add (n.toNat * i'.size)))) w := by
    intro e i' info' d' z' k n A len cap he hte hiv hxv h0 h1
    obtain ⟨it, hTt, hkt⟩ := elemT_some he
    obtain ⟨info, d, z, ht⟩ := hT t it hTt
    have hd : d = .slice e := kindOK_slice (hkt ▸ ht.kind)
    subst hd hiv hxv
    simp [Instr.indexAt, asIntOf, ht.run_und, h0, h1, hte.run_sizeOf]
  have hint : ∀ F : IntKind → Int → Prop, onInt i F → ∃ k n, i = .d (.int k n) ∧ iv = .int k n ∧ F k n := by
    intro F hF
    cases i with
    | d y => cases y with
      | int k n => cases hi.inv_d with | int => exact ⟨k, n, rfl, rfl, hF⟩
      | _ => simp [onInt] at hF
    | _ => simp [onInt] at hF
  cases x with
  | d y =>
    cases y with
    | sl xs =>
      simp only [indexVC] at h
      cases he : elemT T t with
      | none => simp [he, onSome] at h
      | some e =>
        simp only [he, onSome] at h
        obtain ⟨hkn, h⟩ := h
        obtain ⟨k, n, rfl, rfl, h0, h1, h2, rfl, rfl⟩ := hint _ h
        unfold known at hkn
        cases hTe : T e with
        | none => simp [hTe] at hkn
        | some ie =>
          obtain ⟨infoe, de, ze, hte⟩ := hT e ie hTe
          have hlt : n.toNat < xs.length := by omega
          have hget : xs[n.toNat]? = some (lget xs n.toNat) := by simp [lget, List.getD, hlt]
          have hse : sizeOfT T e = ie.size := by simp [sizeOfT, hTe]
          cases hx.inv_d with
          | sl0 A c => simp at h1; omega
          | sl _ m b o cap f hc hm hb hl hv hd =>
            have hme : ie.size = m := by rw [← hse, ← h2]; exact hl _ (List.mem_of_getElem? hget)
            refine ⟨_, key e ie infoe de ze k n _ _ _ he hte rfl rfl h0 h1, rfl, ?_, fun _ => .d _⟩
            rw [hme, Addr.add_mid]
            exact .d (.ptr _ b (o + n.toNat * m) (fun j => f (n.toNat * m + j)) hb (fun j d hj => by rw [Nat.add_assoc]; exact hv _ _ j d hget hj) (fun j d hj => hd _ _ j d hget hj))
    | _ => simp [indexVC] at h
  | own a off len =>
    simp only [indexVC] at h
    cases he : elemT T t with
    | none => simp [he, onSome] at h
    | some e =>
      simp only [he, onSome] at h
      obtain ⟨hkn, h⟩ := h
      obtain ⟨k, n, rfl, rfl, h⟩ := hint _ h
      unfold known at hkn
      cases hTe : T e with
      | none => simp [hTe] at hkn
      | some ie =>
        obtain ⟨infoe, de, ze, hte⟩ := hT e ie hTe
        have hse : sizeOfT T e = ie.size := by simp [sizeOfT, hTe]
        cases hn : H a with
        | none => simp [hn, onArr] at h
        | some ob =>
          cases ob with
          | box c => simp [hn, onArr] at h
          | arr m xs =>
            simp only [hn, onArr] at h
            obtain ⟨h0, h1, h2, h3, rfl, rfl⟩ := h
            cases hx with | own _ hx =>
            obtain ⟨hle, hcase⟩ := hx m xs hn
            rcases hcase with ⟨_, _, hz⟩ | ⟨b, o, cap, cs, Te, fr, g1, rfl, g3, g4, g5, g6⟩
            · omega
            · have ho : o = off * m := g4.resolve_left (by omega)
              refine ⟨_, key e ie infoe de ze k n _ _ _ he hte rfl rfl h0 h1, rfl, .el ⟨_, rfl⟩ fun m' xs' hm' => ?_, fun hg => by cases hg with | own hg => exact .el hg⟩
              rw [hn] at hm'; cases hm'
              refine ⟨by omega, b, g1, ?_⟩
              rw [Addr.add_mid, ho, ← hse, ← h3, Nat.add_zero, Nat.add_mul]
  | _ => simp [indexVC] at h

theorem data_mk (l : List UInt8) : (⟨⟨l⟩⟩ : ByteArray).data.toList = l := rfl

theorem extract_mk (l : List UInt8) (a b : Nat) : (⟨⟨l⟩⟩ : ByteArray).extract a b = ⟨⟨(l.take b).drop a⟩⟩ := by
  apply ByteArray.ext
  rw [ByteArray.data_extract]
  apply Array.ext'
  rw [Array.toList_extract]
  simp [List.drop_take, List.extract]

theorem append_mk (a b : List UInt8) : (⟨⟨a⟩⟩ : ByteArray) ++ ⟨⟨b⟩⟩ = ⟨⟨a ++ b⟩⟩ := by
  apply ByteArray.ext
  rw [ByteArray.data_append]
  simp

theorem size_mk (l : List UInt8) : (⟨⟨l⟩⟩ : ByteArray).size = l.length := rfl

theorem strIx_sound (hT : TyOK P T) {t : Nat} (hs : isStr (T t) = true) {x i : V} {xv iv : Value} (hx : VRel w ok lam H x xv) (hi : VRel w ok lam H i iv)
    (h : strIx x i (eqK v0 u0)) : Quiet P w ok lam H q v0 u0 True (Instr.index t xv iv) := by
  unfold strIx at h
  split at h
  · rename_i s k n
    obtain ⟨h0, h1, rfl, rfl⟩ := h
    cases hx.inv_d with | str _ hm =>
    cases hi.inv_d with | int =>
    have hd : P.underlying t = some .string := by
      unfold isStr at hs
      split at hs
      · rename_i a b z hTt
        obtain ⟨info, d, zz, ht⟩ := hT t _ hTt
        have := kindOK_str ht.kind
        subst this
        exact ht.und
      · simp at hs
    have hlt : n.toNat < s.length := by omega
    have hget : (⟨⟨s⟩⟩ : ByteArray)[n.toNat]? = some (s.getD n.toNat 0) := by
      have : n.toNat < (⟨⟨s⟩⟩ : ByteArray).size := hlt
      rw [getElem?_pos (⟨⟨s⟩⟩ : ByteArray) n.toNat this]
      simp [List.getD, hlt]
      rfl
    refine ⟨_, ?_, rfl, .d (.int .u8 _), fun _ => .d _⟩
    simp [Instr.index, asIntOf, run_underlying hd, h0, hget]
  · exact h.elim

theorem bound_sound {o : Option V} {ov : Option Value} {d : Int} {n : Int} (hr : match o, ov with | none, none => True | some x, some xv => VRel w ok lam H x xv | _, _ => False)
    (h : bound o d = some n) : (o = none ∧ ov = none ∧ n = d) ∨ ∃ k, ov = some (.int k n) := by
  unfold bound at h
  split at h
  · rename_i d'
    cases ov with
    | none => simp at h; exact .inl ⟨rfl, rfl, h.symm⟩
    | some _ => exact hr.elim
  · cases ov with
    | none => exact hr.elim
    | some xv =>
      simp at h; subst h
      cases hr.inv_d with | int => exact .inr ⟨_, rfl⟩
  · simp at h

theorem sliceBound_run {k : IntKind} {i : Int} {y : Nat} {c : BoundsCode} (h0 : 0 ≤ i) (h1 : i ≤ y) : (Instr.sliceBound (.int k i) y c).run P w = .ok i.toNat w := by
  simp [Instr.sliceBound, asIntOf, h0, h1]

theorem sliceBounds_run {isS : Bool} {len cap : Nat} {lo hi : Option Value} {l h : Int} (hl : (lo = none ∧ l = 0) ∨ ∃ k, lo = some (.int k l)) (hh : (hi = none ∧ h = len) ∨ ∃ k, hi = some (.int k h))
    (h0 : 0 ≤ l) (h1 : l ≤ h) (h2 : h ≤ cap) : (Instr.sliceBounds isS len cap lo hi none).run P w = .ok (l.toNat, h.toNat, cap) w := by
  have hle : l ≤ (h.toNat : Int) := by omega
  have h3 : 0 ≤ h := by omega
  rcases hl with ⟨rfl, rfl⟩ | ⟨k, rfl⟩ <;> rcases hh with ⟨rfl, rfl⟩ | ⟨k', rfl⟩
  · simp [Instr.sliceBounds]
  · simp only [Instr.sliceBounds, Sem.run_bind, Sem.run_pure, Result.andThen_ok, sliceBound_run h3 h2]; rfl
  · simp only [Instr.sliceBounds, Sem.run_bind, Sem.run_pure, Result.andThen_ok]; rw [sliceBound_run h0 (by omega)]; rfl
  · simp only [Instr.sliceBounds, Sem.run_bind, Sem.run_pure, Result.andThen_ok, sliceBound_run h3 h2]; rw [Option.isSome_none]; simp only [Bool.false_eq_true, if_false]; rw [sliceBound_run h0 hle]; rfl

end
end Go.Rx
