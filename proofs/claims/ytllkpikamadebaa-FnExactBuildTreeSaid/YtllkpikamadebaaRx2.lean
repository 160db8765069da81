/-
  Part 2: an evaluator over plain data of the model's code with its proof, plain laws on lists and numbers, and contracts of functions of the program; each lemma names its conditions.
-/
import Derived.Test.YtllkpikamadebaaRx1

set_option linter.unusedSimpArgs false
set_option linter.unusedVariables false

namespace Go.Rx
open Go Go.RowKit

section
variable {P : Program} {T : Tys} {okIn U : Nat → Prop} {w0 : World} {p : Nat → Prop} {w w' : World} {ok ok' : Nat → Prop} {lam lam' : Nat → Option Nat} {H H' : Heap} {v0 : V} {u0 : Upd} {cv : Value}

theorem zeroAt_length {xs : List (List D)} {off n : Nat} {z : List D} (h : off + n ≤ xs.length) : (zeroAt xs off n z).length = xs.length := by
  simp [zeroAt]; omega

theorem zeroAt_get {xs : List (List D)} {off n : Nat} {z : List D} (h : off + n ≤ xs.length) {i : Nat} {e : List D} (hi : (zeroAt xs off n z)[i]? = some e) :
    (off ≤ i ∧ i < off + n ∧ e = z) ∨ ((i < off ∨ off + n ≤ i) ∧ xs[i]? = some e) := by
  unfold zeroAt at hi
  have h1 : (xs.take off).length = off := by simp; omega
  by_cases ha : i < off
  · rw [List.append_assoc, List.getElem?_append_left (by omega), List.getElem?_take, if_pos ha] at hi
    exact .inr ⟨.inl ha, hi⟩
  · by_cases hb : i < off + n
    · rw [List.append_assoc, List.getElem?_append_right (by omega), h1, List.getElem?_append_left (by simp; omega), List.getElem?_replicate, if_pos (by omega)] at hi
      exact .inl ⟨by omega, hb, (Option.some.inj hi).symm⟩
    · rw [List.getElem?_append_right (by simp; omega), List.getElem?_drop] at hi
      refine .inr ⟨.inr (by omega), ?_⟩
      rw [← hi]; congr 1; simp; omega

theorem zeroAt_none {xs : List (List D)} {off : Nat} {z : List D} : zeroAt xs off 0 z = xs := by simp [zeroAt]

theorem updF_same {H : Heap} {n : Nat} {o : AObj} (h : H n = some o) : updF [(n, some o)] H = H := by
  rw [updF_one]; funext k
  by_cases e : n = k
  · subst e; simp [h]
  · rw [if_neg e]

theorem zeroCells_get {zs : List Value} {n m : Nat} (hm : zs.length = m) {k : Nat} (hk : k < n * m) : (Builtin.zeroCells ⟨zs⟩ n).toList[k]? = zs[k % m]? := by
  have hpos : 0 < m := by rcases Nat.eq_zero_or_pos m with h | h; · subst h; simp at hk
                          · exact h
  have hlt : k % m < zs.length := by rw [hm]; exact Nat.mod_lt _ hpos
  simp only [Builtin.zeroCells, Array.toList_map, Array.toList_range, List.size_toArray, hm]
  rw [List.getElem?_map, List.getElem?_range (by simpa using hk)]
  simp only [Option.map_some]
  rw [List.getElem?_eq_getElem hlt]
  congr 1
  rw [getElem!_pos _ _ (by simpa using hlt)]
  rfl

theorem zeroCells_length {zs : List Value} {n : Nat} : (Builtin.zeroCells ⟨zs⟩ n).toList.length = n * zs.length := by simp [Builtin.zeroCells]

theorem clear_eff (h : Ctx okIn U w0 p w ok lam H) {tb : Nat} {n off len m : Nat} {xs : List (List D)} (hn : H n = some (.arr m xs)) {v : Value} (hv : VRel w ok lam H (.own n off len) v)
    {zs : List Value} {zd : List D} (hzl : zd.length = m) (hz : Rel2 (DRel w ok) zd zs) (h1 : ∀ v ∈ zs, v.oneCell' = true) :
    (v = .slice none 0 0 ∧ ∃ lam' ok', Eff okIn U w0 p (pX p tb) w ok lam H (.tup []) (updF [(n, some (.arr m (zeroAt xs off len zd)))] H) w (.tuple #[]) lam' ok') ∨
    ∃ a cap, v = .slice (some a) len cap ∧
      ((len = 0 ∧ ∃ lam' ok', Eff okIn U w0 p (pX p tb) w ok lam H (.tup []) (updF [(n, some (.arr m (zeroAt xs off len zd)))] H) w (.tuple #[]) lam' ok') ∨
       (len ≠ 0 ∧ ∃ w' lam' ok', (storeCells a (Builtin.zeroCells ⟨zs⟩ len).toList).run P w = .ok () w' ∧ Eff okIn U w0 p (pX p tb) w ok lam H (.tup []) (updF [(n, some (.arr m (zeroAt xs off len zd)))] H) w' (.tuple #[]) lam' ok')) := by
  have quiet : len = 0 → ∃ lam' ok', Eff okIn U w0 p (pX p tb) w ok lam H (.tup []) (updF [(n, some (.arr m (zeroAt xs off len zd)))] H) w (.tuple #[]) lam' ok' := fun e => by
    subst e
    rw [zeroAt_none, updF_same hn]
    exact ⟨lam, ok, Eff.quiet h (fun _ h => .inl h) (.tup rfl (fun i d v h _ => by simp at h)) (.tup (by simp))⟩
  cases hv with | own _ hv =>
  obtain ⟨hle, hv⟩ := hv m xs hn
  rcases hv with ⟨e1, rfl, e3⟩ | ⟨b, o, cap, ⟨cs⟩, Te, fr, hl, rfl, hlc, ho, hb, hoc⟩
  · exact .inl ⟨rfl, quiet e3⟩
  refine .inr ⟨_, cap, rfl, ?_⟩
  by_cases hlen : len = 0
  · exact .inl ⟨hlen, quiet hlen⟩
  refine .inr ⟨hlen, ?_⟩
  have ho : o = off * m := ho.resolve_left (by omega)
  subst ho
  obtain ⟨hm, hmax, hc⟩ := h.hok.obj n _ hn
  rcases hc with ⟨hln, _⟩ | ⟨b', ⟨cs'⟩, Te', fr', hl', hb', hfz, hsz, hel⟩
  · rw [hln] at hl; cases hl
  obtain rfl : b = b' := by rw [hl] at hl'; exact Option.some.inj hl'
  rw [hb] at hb'
  cases hb'
  have hsz' : xs.length * m ≤ cs.length := by simpa using hsz
  have hzsl : zs.length = m := by rw [← hz.1]; exact hzl
  have hvl : (Builtin.zeroCells ⟨zs⟩ len).toList.length = len * m := by rw [zeroCells_length, hzsl]
  generalize hVs : (Builtin.zeroCells ⟨zs⟩ len).toList = Vs at hvl
  have hin : (off + len) * m ≤ xs.length * m := Nat.mul_le_mul_right _ hle
  rw [Nat.add_mul] at hin
  have hone : ∀ v ∈ Vs, v.oneCell' = true := fun v hv => by
    obtain ⟨k, hk, rfl⟩ := List.mem_iff_getElem.1 hv
    have : Vs[k]? = zs[k % m]? := by rw [← hVs]; exact zeroCells_get hzsl (by omega)
    rw [List.getElem?_eq_getElem hk] at this
    exact h1 _ (List.mem_of_getElem? this.symm)
  have hrun := run_storeCells_cells (P := P) b (off * m) Vs 0 w (fun j hj => by
      rw [cell_of_row w b _ ⟨cs⟩ Te fr hb]
      simp; omega) (fun j hj => hfz _ (by simp; omega)) hone
  simp only [Nat.add_zero] at hrun
  have hpn : p n := h.dom n (by rw [hn]; simp)
  have hheap := setCells_heap b Te fr Vs (off * m) w cs hb (by omega)
  obtain ⟨m1, m2, m3, m4⟩ := setCells_meta b Vs (off * m) w
  obtain ⟨b1, b2⟩ := h.hok.upd (p := p) (w' := w.setCells b (off * m) Vs) (n := n) (b := b) (o := .arr m xs) (o' := .arr m (zeroAt xs off len zd))
    hn hl h.good h.dom (fun k hk => setCells_other b _ _ w k hk) m1 (fun c T f hc => by
      rw [hb] at hc; cases hc
      exact ⟨⟨splice cs (off * m) Vs⟩, Te, fr, hheap, by simp [splice]; omega⟩) (.inr ⟨m, xs, _, rfl, rfl, by rw [zeroAt_length hle]⟩) (fun hc => by
      refine ⟨fun e he => ?_, by rw [zeroAt_length hle]; exact hmax, .inr ⟨b, ⟨splice cs (off * m) Vs⟩, Te, fr, hl, hheap, fun k hk => ?_, ?_, fun i' e j' d' hi' hj' => ?_⟩⟩
      · obtain ⟨i, hi⟩ := List.getElem?_of_mem he
        rcases zeroAt_get hle hi with ⟨_, _, rfl⟩ | ⟨_, hx⟩
        · exact hzl
        · exact hm e (List.mem_of_getElem? hx)
      · have hk' : k < cs.length := by simp [splice] at hk; omega
        have hf0 := hfz k (by simpa using hk')
        simp only [World.frozen?, hb] at hf0
        simp only [World.frozen?, hheap]
        exact hf0
      · rw [zeroAt_length hle]; simp [splice]; omega
      · have hsg := fun k => splice_get (l := cs) (off := off * m) (vs := Vs) (k := k) (by omega)
        have hconv : (⟨splice cs (off * m) Vs⟩ : Array Value)[i' * m + j']? = (splice cs (off * m) Vs)[i' * m + j']? := by simp
        rw [hconv, hsg, hvl]
        rcases zeroAt_get hle hi' with ⟨g1, g2, rfl⟩ | ⟨g1, g2⟩
        · have hjm : j' < m := by have := (List.getElem?_eq_some_iff.1 hj').1; omega
          have k1 : off * m ≤ i' * m := Nat.mul_le_mul_right _ g1
          have k2 : (i' + 1) * m ≤ (off + len) * m := Nat.mul_le_mul_right _ g2
          rw [Nat.add_mul, Nat.one_mul, Nat.add_mul] at k2
          have hvg : Vs[i' * m + j' - off * m]? = zs[(i' * m + j' - off * m) % m]? := by rw [← hVs]; exact zeroCells_get hzsl (by omega)
          rw [if_neg (by omega), if_pos (by omega), hvg]
          have : (i' * m + j' - off * m) % m = j' := by
            have e1 : i' * m + j' - off * m = j' + m * (i' - off) := by
              rw [Nat.mul_comm m, Nat.sub_mul]; omega
            rw [e1, Nat.add_mul_mod_self_left, Nat.mod_eq_of_lt hjm]
          rw [this]
          obtain ⟨c, hc1, hc2⟩ := hz.get hj'
          exact ⟨c, hc1, hc2.mono hc.hw hc.hok⟩
        · have hjm : j' < m := by have := (List.getElem?_eq_some_iff.1 hj').1; rw [hm e (List.mem_of_getElem? g2)] at this; exact this
          obtain ⟨c, hc1, hc2⟩ := hel i' e j' d' g2 hj'
          refine ⟨c, ?_, hc2.mono hc.hw hc.hok⟩
          have hc1' : cs[i' * m + j']? = some c := by simpa using hc1
          rcases g1 with g1 | g1
          · have : (i' + 1) * m ≤ off * m := Nat.mul_le_mul_right _ g1
            rw [Nat.add_mul, Nat.one_mul] at this
            rw [if_pos (by omega)]; exact hc1'
          · have : (off + len) * m ≤ i' * m := Nat.mul_le_mul_right _ g1
            rw [Nat.add_mul] at this
            rw [if_neg (by omega), if_neg (by omega)]; exact hc1')
  refine ⟨_, lam, ok, hrun, ?_⟩
  rw [updF_one]
  have hne : ∀ k, (if n = k then some (AObj.arr m (zeroAt xs off len zd)) else H k) ≠ none → H k ≠ none := fun k hk => by
    by_cases e : n = k
    · subst e; rw [hn]; simp
    · rw [if_neg e] at hk; exact hk
  refine ⟨⟨b1, fun k o ho => ?_, fun k hk => .inl (h.dom k (hne k hk)), h.okb, fun k c hk hc => h.ownb k c (hne k hk) hc, by rw [m1]; exact h.size⟩, .tup rfl (fun i d v h _ => by simp at h), .tup (by simp), ⟨m2, m3, m4, by rw [m1]; exact Nat.le_refl _, fun k hk hu => ?_, setCells_sized hb (by omega)⟩, fun y v hg hv => b2.v hv hg⟩
  · by_cases e : n = k
    · rw [if_pos e] at ho; cases ho; trivial
    · rw [if_neg e] at ho; exact (h.good k o ho).mono fun _ h => .inl h
  · refine setCells_other b _ _ w k fun e => hu ?_
    subst e
    exact h.ownb n k (by rw [hn]; simp) hl

theorem clear_does (hT : TyOK P T) (h : Ctx okIn U w0 p w ok lam H) {tb : Nat} {ts : Array Nat} {ty : Nat} {ti : TI} {t : Nat} (h0 : ts[0]? = some t) (hti : (elemT T t).bind T = some ti) {x : V} {xv : Value} (hx : VRel w ok lam H x xv)
    (hv : clearVC H ti x (eqK v0 u0)) : Does P okIn U w0 p tb w ok lam H v0 u0 (Builtin.clear_ ts ty #[xv]) := by
  cases x with
  | own n off len =>
    simp only [clearVC] at hv
    cases hn : H n with
    | none => rw [hn] at hv; exact hv.elim
    | some ob =>
      cases ob with
      | box c => rw [hn] at hv; exact hv.elim
      | arr m xs =>
        rw [hn] at hv
        obtain ⟨rfl, hz0, rfl, rfl⟩ := hv
        obtain ⟨e, it, info, de, ze, infoe, z2, ht, hTe, hte⟩ := elemT_at hT hti
        have hzl : ze.cells.size = ti.size := by have := hte.zrel.1; rw [hz0] at this; simpa using this.symm
        have hzd := zeroD_rel hte.zrel
        have hz1 : ∀ v ∈ ze.cells.toList, v.oneCell' = true := fun v hv => by
          obtain ⟨i, hi, rfl⟩ := List.mem_iff_getElem.1 hv
          obtain ⟨y, hy, hr⟩ := hte.zrel.get' (List.getElem?_eq_getElem hi)
          cases y with
          | d y =>
            have h1 := hte.zone _ (List.mem_of_getElem? hy) y rfl
            exact VRel.one (ok := ok) (lam := lam) (H := H) (.d (hr w ok)) (by simpa [V.one] using h1)
          | nils m' =>
            have : ze.cells.toList[i] = .slice none 0 0 := hr
            rw [this]; rfl
        have hzc : ze.cells = ⟨ze.cells.toList⟩ := rfl
        rcases clear_eff (P := P) h (tb := tb) hn hx (zs := ze.cells.toList) (zd := zeroD ti.zero) (by rw [zeroD_length]; exact hz0) (hzd.mono fun d v _ hr => hr w ok) hz1 with ⟨rfl, lam', ok', hE⟩ | ⟨a, cap, rfl, ⟨rfl, lam', ok', hE⟩ | ⟨hl, w', lam', ok', hrun, hE⟩⟩
        · exact ⟨_, _, lam', ok', by simp [Builtin.clear_, h0, ht.run_und], hE⟩
        · exact ⟨_, _, lam', ok', by simp [Builtin.clear_, h0, ht.run_und], hE⟩
        · refine ⟨_, _, lam', ok', ?_, hE⟩
          rw [← hzc] at hrun
          cases len with
          | zero => exact absurd rfl hl
          | succ len => simp [Builtin.clear_, h0, ht.run_und, hte.run_zero, hrun]
  | _ => exact hv.elim
end
end Go.Rx

namespace Go.Rx
open Go Go.RowKit

section
variable {P : Program} {T : Tys} {okIn U : Nat → Prop} {w0 : World} {p : Nat → Prop} {w w' : World} {ok ok' : Nat → Prop} {lam lam' : Nat → Option Nat} {H H' : Heap} {v0 : V} {u0 : Upd} {cv : Value}

theorem srcTy_kind (hT : TyOK P T) {tx : Nat} (h : srcTy T (some tx) = true) : (∃ e', P.underlying tx = some (.slice e')) ∨ P.underlying tx = some .string := by
  simp only [srcTy, Bool.or_eq_true] at h
  rcases h with h | h
  · exact .inl (isSl_und hT h)
  · exact .inr (isStr_und hT h)

theorem src_nil (hT : TyOK P T) {size tx : Nat} {A : Option Addr} {c : Nat} (htx : srcTy T (some tx) = true) : Src P size tx (.slice A 0 c) 0 [] w := by
  refine ⟨srcTy_kind hT htx, fun _ => rfl, ?_, ?_, by simp, by simp⟩
  · cases A with
    | none => rfl
    | some a => exact run_firstCells_some w size 0 a 0 c [] (by simp) (by simp)
  · cases A with
    | none => rfl
    | some a => exact run_firstCells_some w.drew size 0 a 0 c [] (by simp) (by simp)

theorem src_raw (hT : TyOK P T) {ys : List (List D)} {size tx b o cap : Nat} {g : Nat → Value} (hs : ∀ c ∈ ys, c.length = size) (hone : ∀ c ∈ ys, ∀ d ∈ c, d.one = true) (htx : srcTy T (some tx) = true)
    (hv : ∀ (i : Nat) e (j : Nat) d, ys[i]? = some e → e[j]? = some d → w.cell? ⟨b, o + (i * size + j), none⟩ = some (g (i * size + j)))
    (hd : ∀ (i : Nat) e (j : Nat) d, ys[i]? = some e → e[j]? = some d → DRel w ok d (g (i * size + j))) :
    ∃ news, Src P size tx (.slice (some ⟨b, o, none⟩) ys.length cap) ys.length news w ∧ ∀ (i : Nat) e (j : Nat) d, ys[i]? = some e → e[j]? = some d → ∃ c, news[i * size + j]? = some c ∧ DRel w ok d c := by
  have hk := srcTy_kind hT htx
  have at_ : ∀ k, k < ys.length * size → ∃ e d, ys[k / size]? = some e ∧ e[k % size]? = some d ∧ k = k / size * size + k % size := by
    intro k hk
    have hpos : 0 < size := by
      rcases Nat.eq_zero_or_pos size with h0 | h0
      · subst h0; simp at hk
      · exact h0
    have h1 : k / size < ys.length := Nat.div_lt_of_lt_mul (by rw [Nat.mul_comm]; exact hk)
    have h2 : k % size < size := Nat.mod_lt _ hpos
    have he : ys[k / size]? = some ys[k / size] := List.getElem?_eq_getElem h1
    have hel := hs _ (List.mem_of_getElem? he)
    exact ⟨_, ys[k / size][k % size], he, List.getElem?_eq_getElem (by omega), by rw [Nat.mul_comm]; exact (Nat.div_add_mod k size).symm⟩
  have hcell : ∀ (w2 : World), (∀ a, w2.cell? a = w.cell? a) → ∀ (j : Nat) v, ((List.range (ys.length * size)).map g)[j]? = some v → w2.cell? ((⟨b, o, none⟩ : Addr).add j) = some v := by
    intro w2 hw2 j v hj
    have hjl : j < ys.length * size := by have := (List.getElem?_eq_some_iff.1 hj).1; simpa using this
    simp [hjl] at hj
    obtain ⟨e, d, h1, h2, h4⟩ := at_ j hjl
    rw [hw2, Addr.add_mid]
    have := hv _ e _ d h1 h2
    rw [← h4] at this
    rw [this, hj]
  refine ⟨(List.range (ys.length * size)).map g, ⟨hk, fun _ => rfl, run_firstCells_some w size ys.length ⟨b, o, none⟩ _ cap _ (by simp) (hcell w fun _ => rfl), run_firstCells_some w.drew size ys.length ⟨b, o, none⟩ _ cap _ (by simp) (hcell w.drew fun _ => rfl), by simp, ?_⟩, ?_⟩
  · intro u hu
    obtain ⟨k, hk1, rfl⟩ := List.mem_map.1 hu
    have hkl : k < ys.length * size := by simpa using hk1
    obtain ⟨e, d, h1, h2, h4⟩ := at_ k hkl
    have := hd _ e _ d h1 h2
    rw [← h4] at this
    exact this.one (hone e (List.mem_of_getElem? h1) d (List.mem_of_getElem? h2))
  · intro i e j d hi hj
    have hel := hs e (List.mem_of_getElem? hi)
    have hil := (List.getElem?_eq_some_iff.1 hi).1
    have hjl := (List.getElem?_eq_some_iff.1 hj).1
    have hin : (i + 1) * size ≤ ys.length * size := Nat.mul_le_mul_right _ hil
    rw [Nat.add_mul] at hin
    refine ⟨g (i * size + j), ?_, hd i e j d hi hj⟩
    have hlt : i * size + j < ys.length * size := by omega
    simp [hlt]

/-- What is appended, read out of a value. -/
theorem src_of (hT : TyOK P T) (hk : HOK w ok lam H) {x : V} {xv : Value} {ys : List (List D)} {size tx : Nat} (hx : VRel w ok lam H x xv) (hy : slOf (toD H x) = some ys)
    (hs : ∀ c ∈ ys, c.length = size) (hone : ∀ c ∈ ys, ∀ d ∈ c, d.one = true) (htx : srcTy T (some tx) = true) :
    ∃ news, Src P size tx xv ys.length news w ∧ ∀ (i : Nat) e (j : Nat) d, ys[i]? = some e → e[j]? = some d → ∃ c, news[i * size + j]? = some c ∧ DRel w ok d c := by
  cases x with
  | d y =>
    simp only [toD, cD] at hy
    cases y with
    | sl zs =>
      simp [slOf] at hy
      subst hy
      cases hx.inv_d with
      | sl0 A c => exact ⟨[], src_nil hT htx, by simp⟩
      | sl _ m b o cap g hc hm hb hl hv hd =>
        rcases zs with _ | ⟨z, zs⟩
        · exact ⟨[], src_nil hT htx, by simp⟩
        · have hms : m = size := (hl z List.mem_cons_self).symm.trans (hs z List.mem_cons_self)
          subst hms
          exact src_raw hT hs hone htx hv hd
    | _ => simp [slOf] at hy
  | nils => simp [toD, cD, slOf] at hy; subst hy; cases hx; exact ⟨[], src_nil hT htx, by simp⟩
  | own n off len =>
    simp only [toD, cD] at hy
    cases hn : H n with
    | none => simp [hn, slOf] at hy
    | some ob =>
      cases ob with
      | box c => simp [hn, slOf] at hy
      | arr m xs =>
        simp [hn, slOf] at hy
        subst hy
        cases hx with | own _ hx =>
        obtain ⟨hle, hc⟩ := hx m xs hn
        have hlen : ((xs.drop off).take len).length = len := by simp; omega
        rcases hc with ⟨_, rfl, rfl⟩ | ⟨b, o, cap, cs, Te, fr, g1, rfl, g3, g4, g5, g6⟩
        · simp; exact ⟨[], src_nil hT htx⟩
        · obtain ⟨hm, hmax, hobj⟩ := hk.obj n _ hn
          rcases hobj with ⟨hz, _⟩ | ⟨b', cs', Te', fr', k1, k2, k3, k4, k5⟩
          · rw [g1] at hz; cases hz
          · obtain rfl : b = b' := by rw [g1] at k1; exact Option.some.inj k1
            by_cases hz : len = 0
            · subst hz; simp; exact ⟨[], src_nil hT htx⟩
            · have ho : o = off * m := g4.resolve_left (by omega)
              have hms : m = size := by
                have hne : 0 < ((xs.drop off).take len).length := by omega
                have hmem := List.getElem_mem hne
                rw [← hs _ hmem]
                exact (hm _ (List.mem_of_mem_drop (List.mem_of_mem_take hmem))).symm
              subst hms
              have hget : ∀ (i : Nat) e, ((xs.drop off).take len)[i]? = some e → xs[off + i]? = some e := by
                intro i e he
                rw [List.getElem?_take] at he
                split at he
                · rwa [List.getElem?_drop] at he
                · simp at he
              have := src_raw (w := w) (ok := ok) hT (b := b) (o := o) (cap := cap) (g := fun k => cs'.getD (off * m + k) undef) hs hone htx (fun i e j d hi hj => by
                  obtain ⟨c, hc, _⟩ := k5 (off + i) e j d (hget i e hi) hj
                  rw [Nat.add_mul, Nat.add_assoc] at hc
                  rw [ho, cell_of_row w b _ cs' Te' fr' k2, hc]
                  simp [Array.getD_eq_getD_getElem?, hc]) (fun i e j d hi hj => by
                  obtain ⟨c, hc, hd⟩ := k5 (off + i) e j d (hget i e hi) hj
                  rw [Nat.add_mul, Nat.add_assoc] at hc
                  simp only [Array.getD_eq_getD_getElem?, hc, Option.getD_some]
                  exact hd)
              rw [hlen] at this ⊢
              exact this
  | agg vs => simp only [toD] at hy; cases hc : cDs H vs with
    | none => simp [hc, slOf] at hy
    | some p => simp [hc, slOf] at hy
  | clo f vs => simp only [toD] at hy; cases hc : toPs H vs with
    | none => simp [hc, slOf] at hy
    | some p => simp [hc, slOf] at hy
  | _ => simp [toD, cD, slOf] at hy

/-- The array of a name is written behind its elements, and gets a new name. -/
theorem reuse_eff (h : Ctx okIn U w0 p w ok lam H) {tb : Nat} (hf : Fresh p tb) {n b m len cap : Nat} {xs xs' : List (List D)} {o : Nat} {cs cs' : Array Value} {Te : TypeId} {fr : Nat × Nat}
    (hn : H n = some (.arr m xs)) (hl : lam n = some b) (hb : w.heap[b]? = some (.cells cs Te fr)) (hb' : w'.heap[b]? = some (.cells cs' Te fr)) (hcs : cs'.size = cs.size) (hother : ∀ k, k ≠ b → w'.heap[k]? = w.heap[k]?) (hsz : w'.heap.size = w.heap.size)
    (hmeta : w'.os = w.os ∧ w'.tape = w.tape ∧ w'.output = w.output) (hm : ∀ e ∈ xs', e.length = m) (hmax : xs'.length ≤ MAX) (hlen : len ≤ xs'.length) (hcap : len ≤ cap) (ho : cap = 0 ∨ o = 0) (hcm : cap * m ≤ cs.size) (hxm : xs'.length * m ≤ cs.size)
    (hfz : ∀ i, i < cs.size → w.frozen? ⟨b, i, none⟩ = false)
    (hel : ∀ (i : Nat) e (j : Nat) d, xs'[i]? = some e → e[j]? = some d → ∃ c, cs'[i * m + j]? = some c ∧ DRel w ok d c) :
    Eff okIn U w0 p (pX p tb) w ok lam H (.own tb 0 len) (updF [(n, none), (tb, some (.arr m xs'))] H) w' (.slice (some ⟨b, o, none⟩) len cap) (fun k => if k = tb then some b else lam k) ok := by
  have hfr : ¬ p tb := hf tb (Nat.le_refl _) (by omega)
  have hpn : p n := h.dom n (by rw [hn]; simp)
  have hnt : n ≠ tb := fun e => hfr (e ▸ hpn)
  have hnb : ∀ c, ok c → c ≠ b := fun c hc e => h.hok.dis n b (by rw [hn]; simp) hl (e ▸ hc)
  let H' : Heap := fun k => if tb = k then some (.arr m xs') else if n = k then none else H k
  have hup : updF [(n, none), (tb, some (.arr m xs'))] H = H' := rfl
  have hne : ∀ a, a ≠ tb → H' a ≠ none → a ≠ n ∧ H a ≠ none ∧ H' a = H a := fun a ha hna => by
    simp only [H'] at hna ⊢
    rw [if_neg (Ne.symm ha)] at hna ⊢
    by_cases e : n = a
    · rw [if_pos e] at hna; simp at hna
    · rw [if_neg e] at hna ⊢; exact ⟨Ne.symm e, hna, rfl⟩
  have hpt : ∀ k, p k → k ≠ tb := fun k hk e => hfr (e ▸ hk)
  have hc : Chg p w ok lam H w' ok (fun k => if k = tb then some b else lam k) H' := by
    refine ⟨fun c hc => hother c (hnb c hc), fun _ h => h, fun k hk _ => by rw [if_neg (hpt k hk)], fun k hk c' hc' => ?_, fun k hk m' xs2 hc' => ?_, fun k c cs2 T2 fr2 m2 xs2 hk hna h1 h2 => ?_⟩
    · have := (hne k (hpt k hk) (by rw [hc']; simp)).2.2
      exact ⟨c', this ▸ hc'⟩
    · have := (hne k (hpt k hk) (by rw [hc']; simp)).2.2
      exact ⟨xs2, this ▸ hc', rfl⟩
    · have hcb : c ≠ b := fun e => (hne k (hpt k hk) (by rw [hna]; simp)).1 (h.hok.inj k n b (hne k (hpt k hk) (by rw [hna]; simp)).2.1 (by rw [hn]; simp) (e ▸ h1) hl)
      exact ⟨cs2, T2, fr2, by rw [hother c hcb]; exact h2, rfl⟩
  rw [hup]
  refine ⟨⟨⟨fun a c d ha hc' h1 h2 => ?_, fun a c ha h1 => ?_, fun a c ha h1 => ?_, fun c hc' => hsz ▸ h.hok.oklt c hc', fun a x ha => ?_⟩, fun a x ha => ?_, fun a ha => ?_, h.okb, fun a c ha h1 => ?_, by rw [hsz]; exact h.size⟩, ?_, .own pX_tb, ⟨hmeta.1, hmeta.2.1, hmeta.2.2, by rw [hsz]; exact Nat.le_refl _, fun k hk hu => ?_, sized_one hb' (fun c T f hc => by rw [hb] at hc; cases hc; exact hcs) (fun k _ hk => hother k hk)⟩, fun y v hg hv => hc.v hv hg⟩
  · by_cases e1 : a = tb
    · by_cases e2 : c = tb
      · rw [e1, e2]
      · rw [if_pos e1] at h1; rw [if_neg e2] at h2
        obtain ⟨k1, k2, _⟩ := hne c e2 hc'
        exact absurd (h.hok.inj c n d k2 (by rw [hn]; simp) h2 (h1 ▸ hl)) k1
    · by_cases e2 : c = tb
      · rw [if_pos e2] at h2; rw [if_neg e1] at h1
        obtain ⟨k1, k2, _⟩ := hne a e1 ha
        exact absurd (h.hok.inj a n d k2 (by rw [hn]; simp) h1 (h2 ▸ hl)) k1
      · rw [if_neg e1] at h1; rw [if_neg e2] at h2
        exact h.hok.inj a c d (hne a e1 ha).2.1 (hne c e2 hc').2.1 h1 h2
  · rw [hsz]
    by_cases e1 : a = tb
    · rw [if_pos e1] at h1; cases h1; exact h.hok.lt n b (by rw [hn]; simp) hl
    · rw [if_neg e1] at h1; exact h.hok.lt a c (hne a e1 ha).2.1 h1
  · by_cases e1 : a = tb
    · rw [if_pos e1] at h1; cases h1; exact fun hb => hnb b hb rfl
    · rw [if_neg e1] at h1; exact h.hok.dis a c (hne a e1 ha).2.1 h1
  · by_cases e1 : a = tb
    · subst e1
      simp only [H', if_true] at ha
      cases ha
      refine ⟨hm, hmax, .inr ⟨b, cs', Te, fr, by simp, hb', fun i hi => ?_, by omega, fun i e j d hi hj => ?_⟩⟩
      · have hf0 := hfz i (by omega)
        simp only [World.frozen?, hb] at hf0
        simp only [World.frozen?, hb']
        exact hf0
      · obtain ⟨c, h1, h2⟩ := hel i e j d hi hj
        exact ⟨c, h1, h2.mono hc.hw hc.hok⟩
    · obtain ⟨k1, k2, k3⟩ := hne a e1 (by rw [ha]; simp)
      have ha' : H a = some x := k3 ▸ ha
      exact ObjRel.chg hc (h.dom a k2) (by rw [ha]; simp) (h.good a x ha') (fun c hc' => hother c fun e => k1 (h.hok.inj a n b k2 (by rw [hn]; simp) (e ▸ hc') hl)) (h.hok.obj a x ha')
  · by_cases e1 : a = tb
    · subst e1; simp only [H', if_true] at ha; cases ha; trivial
    · obtain ⟨k1, k2, k3⟩ := hne a e1 (by rw [ha]; simp)
      exact (h.good a x (k3 ▸ ha)).mono fun _ h => .inl h
  · by_cases e1 : a = tb
    · rw [e1]; exact pX_tb
    · exact .inl (h.dom a (hne a e1 ha).2.1)
  · by_cases e1 : a = tb
    · rw [if_pos e1] at h1; cases h1; exact h.ownb n b (by rw [hn]; simp) hl
    · rw [if_neg e1] at h1; exact h.ownb a c (hne a e1 ha).2.1 h1
  · refine .own ⟨_, _, _, rfl⟩ fun m' xs2 hc' => ?_
    simp only [H', if_true] at hc'
    cases hc'
    exact ⟨by omega, .inr ⟨b, o, cap, cs', Te, fr, by simp, rfl, hcap, ho.imp id (fun e => by simp [e]), hb', by rw [hcs]; simpa using hcm⟩⟩
  · exact hother k fun e => hu (e ▸ h.ownb n b (by rw [hn]; simp) hl)

theorem nilArr_eff (h : Ctx okIn U w0 p w ok lam H) {tb m : Nat} (hf : Fresh p tb) (ls : List Nat) :
    ∃ lam' ok', Eff okIn U w0 p (pX p tb) w ok lam H (.own tb 0 0) (updF (ls.map (·, none) ++ [(tb, some (.arr m []))]) H) w (.slice none 0 0) lam' ok' := by
  obtain ⟨r1, r2⟩ := h.hok.rem (p := p) ls h.good h.dom
  have hc : Ctx okIn U w0 p w (okB ok lam H ls) lam (remF ls H) := ⟨r1, fun k o ho => h.good k o (remF_ne ho).2, fun k hk => by
    cases hh : remF ls H k with
    | none => exact absurd hh hk
    | some o => exact h.dom k (by rw [(remF_ne hh).2]; simp), fun c hc => by
      rcases hc with hc | ⟨k, _, hk1, hk2⟩
      · exact h.okb c hc
      · exact .inr (h.ownb k c hk1 hk2), fun k c hk hc => by
      cases hh : remF ls H k with
      | none => exact absurd hh hk
      | some o => exact h.ownb k c (by rw [(remF_ne hh).2]; simp) hc, h.size⟩
  obtain ⟨lam', ok', he⟩ := moveNil_eff (tb := tb) (m := m) hc hf
  rw [updF_append, updF_rem]
  exact ⟨lam', ok', ⟨he.ctx, he.val, he.vgood, he.fr, fun x v hg hv => he.stab x v hg (r2.v hv hg)⟩⟩

theorem append_nil_eff (h : Ctx okIn U w0 p w ok lam H) {tb : Nat} (hf : Fresh p tb) (ls : List Nat) {ty tx rty e : Nat} {it ti : TI} {info infoe : TypeInfo} {z2 ze : Value} {de : TypeDesc} (ht : TyAt P ty it info (.slice e) z2) (hte : TyAt P e ti infoe de ze)
    {xv : Value} {ys : List (List D)} {news : List Value} (hsrc : Src P ti.size tx xv ys.length news w)
    (hels : ∀ (i : Nat) x (j : Nat) d, ys[i]? = some x → x[j]? = some d → ∃ c, news[i * ti.size + j]? = some c ∧ DRel w ok d c) (hfit : fits ti ys.length ys) :
    Does P okIn U w0 p tb w ok lam H (.own tb 0 ys.length) (ls.map (·, none) ++ [(tb, some (.arr ti.size ys))]) (Builtin.append_ #[ty, tx] rty #[.slice none 0 0, xv]) := by
  obtain ⟨h0, h1, h2, h3, h4⟩ := hfit
  cases hys : ys with
  | nil =>
    subst hys
    obtain ⟨lam', ok', he⟩ := nilArr_eff (m := ti.size) h hf ls
    refine ⟨.slice none 0 0, w, lam', ok', ?_, he⟩
    have hcells : (Builtin.firstCells ti.size 0 xv).run P w = .ok news.toArray w := hsrc.cells
    rcases hsrc.kind with ⟨e', hk⟩ | hk <;> simp [Builtin.append_, ht.run_und, run_underlying hk, hte.run_sizeOf, hsrc.len, hcells]
  | cons y ys' =>
    rw [← hys]
    have hpos : 0 < ys.length := by rw [hys]; simp
    have hb : ys.length * infoe.bytes ≤ 140737488355328 := by
      rw [hte.bytes]
      have : ys.length * ti.bytes ≤ 4294967296 * 4096 := Nat.mul_le_mul h2 h1
      omega
    have hrun := run_append_grow_src (P := P) w ty tx rty e infoe ze ht.und hte.inf hte.zero none 0 0 [] (by rfl) xv ys.length news (hte.size ▸ hsrc) (by omega) (by omega) (growslice_fits (by omega) (by simpa using hb))
    simp only [Nat.zero_add, List.nil_append] at hrun
    have hge := grownCap_ge w ys.length 0 e
    generalize grownCap w ys.length 0 e = cap at hrun hge
    have hzl : ze.cells.size = ti.size := by have := hte.zrel.1; rw [h0] at this; simpa using this.symm
    have hnl := hsrc.newsLen
    have hsize : (news.toArray ++ Builtin.zeroCells ze.cells (cap - ys.length)).size = cap * ti.size := by
      simp only [Array.size_append, List.size_toArray, size_zeroCells, hzl, hnl, ← Nat.add_mul]
      congr 1; omega
    obtain ⟨lam', ok', he⟩ := newArr_eff (w' := w.drew.alloc (.cells (news.toArray ++ Builtin.zeroCells ze.cells (cap - ys.length)) e)) h hf ls (m := ti.size) (len := ys.length) (cap := cap) (xs := ys)
      (cs := news.toArray ++ Builtin.zeroCells ze.cells (cap - ys.length)) (Te := e) (fr := (0, 0)) (fun b hb => heap_alloc_old w.drew _ b hb) (by simp) ⟨rfl, rfl, rfl⟩ (heap_alloc_new w.drew _)
      (fun i _ => frozen_of_row _ _ i _ e (heap_alloc_new w.drew _)) h3 (by unfold MAX; omega) (Nat.le_refl _) hge (by omega) (by rw [hsize]; exact Nat.mul_le_mul_right _ hge) (fun i x j d hi hj => by
        obtain ⟨c, hc, hd⟩ := hels i x j d hi hj
        have hlt := (List.getElem?_eq_some_iff.1 hc).1
        refine ⟨c, ?_, hd.mono (fun _ _ => rfl) fun b hb => .inl hb⟩
        rw [Array.getElem?_append_left (by simpa using hlt)]
        simpa using hc)
    exact ⟨_, _, lam', ok', hrun, he⟩

theorem appTo_eff (hT : TyOK P T) (h : Ctx okIn U w0 p w ok lam H) {tb : Nat} (hf : Fresh p tb) {ty tx rty e : Nat} {it ti : TI} {info infoe : TypeInfo} {z2 ze : Value} {de : TypeDesc} (ht : TyAt P ty it info (.slice e) z2) (hte : TyAt P e ti infoe de ze)
    {s x : V} {sv xv : Value} {ys : List (List D)} (hs : VRel w ok lam H s sv) (hx : VRel w ok lam H x xv) (hy : slOf (toD H x) = some ys) (htx : srcTy T (some tx) = true) (hv : appTo H tb ti s ys (eqK v0 u0)) :
    Does P okIn U w0 p tb w ok lam H v0 u0 (Builtin.append_ #[ty, tx] rty #[sv, xv]) := by
  cases s with
  | ref => simp [appTo] at hv
  | el => simp [appTo] at hv
  | d => simp [appTo] at hv
  | agg => simp [appTo] at hv
  | tup => simp [appTo] at hv
  | clo => simp [appTo] at hv
  | dead => simp [appTo] at hv
  | own n off len =>
    cases off with
    | succ off => simp [appTo] at hv
    | zero =>
    simp only [appTo] at hv
    cases hn : H n with
    | none => simp [hn, onArr] at hv
    | some ob =>
      cases ob with
      | box c => simp [hn, onArr] at hv
      | arr m xs =>
        simp only [hn, onArr] at hv
        obtain ⟨rfl, ⟨h0, h1, h2, h3, h4⟩, rfl, rfl⟩ := hv
        obtain ⟨news, hsrc, hels⟩ := src_of hT h.hok hx hy h3 h4 htx
        obtain ⟨hm, hmax, hobj⟩ := h.hok.obj n _ hn
        have hnl := hsrc.newsLen
        have hzl : ze.cells.size = ti.size := by have := hte.zrel.1; rw [h0] at this; simpa using this.symm
        cases hs with | own _ hs =>
        obtain ⟨hle, hc⟩ := hs _ xs hn
        have htl : (xs.take len).length = len := by simp; omega
        have hget : ∀ (i : Nat) x (j : Nat) d, (xs.take len ++ ys)[i]? = some x → x[j]? = some d → (i < len ∧ xs[i]? = some x) ∨ (len ≤ i ∧ ys[i - len]? = some x) := fun i x j d hi hj => by
          by_cases hlt : i < len
          · rw [List.getElem?_append_left (by omega), List.getElem?_take, if_pos hlt] at hi; exact .inl ⟨hlt, hi⟩
          · rw [List.getElem?_append_right (by omega), htl] at hi; exact .inr ⟨by omega, hi⟩
        have hmem : ∀ x ∈ xs.take len ++ ys, x.length = ti.size := fun x hx => by
          rcases List.mem_append.1 hx with hx | hx
          · exact hm x (List.mem_of_mem_take hx)
          · exact h3 x hx
        rcases hc with ⟨hln, rfl, rfl⟩ | ⟨b, o, cap, cs, Te, fr, g1, rfl, g3, g4, g5, g6⟩
        · have := append_nil_eff h hf [n] ht hte (rty := rty) hsrc hels ⟨h0, h1, by omega, h3, h4⟩
          simpa using this
        · rcases hobj with ⟨hz, _⟩ | ⟨b', cs', Te', fr', k1, k2, k3, k4, k5⟩
          · rw [g1] at hz; cases hz
          obtain rfl : b = b' := by rw [g1] at k1; exact Option.some.inj k1
          rw [g5] at k2; cases k2
          have hcellx : ∀ (i : Nat) x (j : Nat) d, xs[i]? = some x → x[j]? = some d → ∃ c, cs[i * ti.size + j]? = some c ∧ DRel w ok d c := k5
          by_cases hroom : len + ys.length ≤ cap
          · have hcapm : (len + ys.length) * ti.size ≤ cap * ti.size := Nat.mul_le_mul_right _ hroom
            rw [Nat.add_mul] at hcapm
            have g6' : cap * ti.size ≤ cs.size := by simpa using g6
            have hoz : cap = 0 ∨ o = 0 := g4.imp id (fun e => by simpa using e)
            have hin : cap = 0 → len = 0 ∧ ys.length = 0 := fun hz => by omega
            have hoff : ∀ j, j < news.length → o + len * ti.size + j < cs.size := fun j hj => by
              rcases hoz with hz | hz
              · obtain ⟨e1, e2⟩ := hin hz; rw [hnl, e2] at hj; simp at hj
              · subst hz; omega
            have hrun := run_append_room_src (P := P) w ty tx rty e infoe ht.und hte.inf b o len cap xv ys.length news (hte.size ▸ hsrc) hroom
              (fun j hj => by rw [hte.size, cell_of_row w b _ cs Te fr g5]; have := hoff j hj; simp [this]) (fun j hj => by rw [hte.size]; exact k3 _ (hoff j hj))
            rw [hte.size] at hrun
            obtain ⟨m1, m2, m3, m4⟩ := setCells_meta b news (o + len * ti.size) w
            have hnews0 : cap = 0 → news = [] := fun hz => List.eq_nil_of_length_eq_zero (by rw [hnl, (hin hz).2]; simp)
            obtain ⟨⟨csl⟩, hcsl⟩ : ∃ l, l = cs := ⟨cs, rfl⟩
            have hheap : (w.setCells b (o + len * ti.size) news).heap[b]? = some (.cells ⟨if cap = 0 then csl else splice csl (len * ti.size) news⟩ Te fr) := by
              by_cases hz : cap = 0
              · rw [hnews0 hz, if_pos hz, hcsl]; exact g5
              · have ho : o = 0 := hoz.resolve_left hz
                subst ho
                rw [if_neg hz, Nat.zero_add]
                refine setCells_heap b Te fr news (len * ti.size) w csl (by rw [hcsl]; exact g5) ?_
                have : csl.length = cs.size := by rw [← hcsl]; simp
                omega
            have hcl : csl.length = cs.size := by rw [← hcsl]; simp
            have hE := reuse_eff (w' := w.setCells b (o + len * ti.size) news) h hf (n := n) (b := b) (m := ti.size) (len := len + ys.length) (cap := cap) (xs := xs) (xs' := xs.take len ++ ys) (o := o) hn g1 g5 hheap
              (by by_cases hz : cap = 0
                  · rw [if_pos hz]; simpa using hcl
                  · rw [if_neg hz]; simp [splice]; omega) (fun k hk => setCells_other b _ _ w k hk) m1 ⟨m2, m3, m4⟩ hmem (by simp [MAX]; omega) (by simp; omega) hroom hoz g6' (by simp; rw [Nat.min_eq_left (by omega), Nat.add_mul]; omega) k3
              (fun i x j d hi hj => by
                have hjl := (List.getElem?_eq_some_iff.1 hj).1
                rw [hmem x (List.mem_of_getElem? hi)] at hjl
                have hil := (List.getElem?_eq_some_iff.1 hi).1
                simp at hil
                have hz : ¬ cap = 0 := fun hz => by obtain ⟨e1, e2⟩ := hin hz; omega
                rw [if_neg hz]
                have hsg := splice_get (l := csl) (off := len * ti.size) (vs := news) (k := i * ti.size + j) (by omega)
                have hconv : (⟨splice csl (len * ti.size) news⟩ : Array Value)[i * ti.size + j]? = (splice csl (len * ti.size) news)[i * ti.size + j]? := by simp
                rw [hconv, hsg]
                rcases hget i x j d hi hj with ⟨hlt, hx⟩ | ⟨hge, hx⟩
                · have hb : (i + 1) * ti.size ≤ len * ti.size := Nat.mul_le_mul_right _ hlt
                  rw [Nat.add_mul] at hb
                  rw [if_pos (by omega)]
                  obtain ⟨c, hc1, hc2⟩ := hcellx i x j d hx hj
                  exact ⟨c, by rw [← hcsl] at hc1; simpa using hc1, hc2⟩
                · have hb : len * ti.size ≤ i * ti.size := Nat.mul_le_mul_right _ hge
                  obtain ⟨c, hc1, hc2⟩ := hels (i - len) x j d hx hj
                  have hcn := (List.getElem?_eq_some_iff.1 hc1).1
                  have he : i * ti.size + j - len * ti.size = (i - len) * ti.size + j := by rw [Nat.sub_mul]; omega
                  rw [if_neg (by omega), if_pos (by omega), he]
                  exact ⟨c, hc1, hc2⟩)
            exact ⟨_, _, _, _, hrun, hE⟩
          · have hb : (len + ys.length) * infoe.bytes ≤ 140737488355328 := by
              rw [hte.bytes]
              have : (len + ys.length) * ti.bytes ≤ 4294967296 * 4096 := Nat.mul_le_mul h2 h1
              omega
            have g6' : cap * ti.size ≤ cs.size := by simpa using g6
            have hlm : len * ti.size ≤ cap * ti.size := Nat.mul_le_mul_right _ g3
            obtain ⟨⟨csl⟩, hcsl⟩ : ∃ l, l = cs := ⟨cs, rfl⟩
            have hcl : csl.length = cs.size := by rw [← hcsl]; simp
            have hold : (Builtin.firstCells infoe.size len (.slice (some ⟨b, o, none⟩) len cap)).run P w.drew = .ok (csl.take (len * ti.size)).toArray w.drew := by
              rw [hte.size]
              refine run_firstCells_some w.drew ti.size len ⟨b, o, none⟩ len cap _ (by simp; omega) fun j v hj => ?_
              rw [List.getElem?_take] at hj
              split at hj
              · rename_i hjl
                have ho : o = 0 := by
                  rcases g4 with hz | hz
                  · have : len = 0 := by omega
                    subst this; simp at hjl
                  · simpa using hz
                subst ho
                rw [Addr.add_mid, World.cell?_drew, cell_of_row w b _ cs Te fr g5, ← hcsl]
                simpa using hj
              · cases hj
            have hrun := run_append_grow_src (P := P) w ty tx rty e infoe ze ht.und hte.inf hte.zero (some ⟨b, o, none⟩) len cap (csl.take (len * ti.size)) hold xv ys.length news (hte.size ▸ hsrc) (by omega) (by omega) (growslice_fits (by omega) hb)
            have hge := grownCap_ge w (len + ys.length) cap e
            generalize grownCap w (len + ys.length) cap e = cap2 at hrun hge
            have hol : (csl.take (len * ti.size)).length = len * ti.size := by simp; omega
            have hsize : ((csl.take (len * ti.size) ++ news).toArray ++ Builtin.zeroCells ze.cells (cap2 - (len + ys.length))).size = cap2 * ti.size := by
              simp only [Array.size_append, List.size_toArray, List.length_append, size_zeroCells, hzl, hnl, hol, ← Nat.add_mul]
              congr 1; omega
            obtain ⟨lam', ok', he⟩ := newArr_eff (w' := w.drew.alloc (.cells ((csl.take (len * ti.size) ++ news).toArray ++ Builtin.zeroCells ze.cells (cap2 - (len + ys.length))) e)) h hf [n] (m := ti.size) (len := len + ys.length) (cap := cap2) (xs := xs.take len ++ ys)
              (cs := (csl.take (len * ti.size) ++ news).toArray ++ Builtin.zeroCells ze.cells (cap2 - (len + ys.length))) (Te := e) (fr := (0, 0)) (fun b hb => heap_alloc_old w.drew _ b hb) (by simp) ⟨rfl, rfl, rfl⟩ (heap_alloc_new w.drew _)
              (fun i _ => frozen_of_row _ _ i _ e (heap_alloc_new w.drew _)) hmem (by simp [MAX]; omega) (by simp; omega) hge (by omega) (by rw [hsize]; simp; rw [Nat.min_eq_left (by omega)]; exact Nat.mul_le_mul_right _ hge) (fun i x j d hi hj => by
                have hjl := (List.getElem?_eq_some_iff.1 hj).1
                rw [hmem x (List.mem_of_getElem? hi)] at hjl
                rcases hget i x j d hi hj with ⟨hlt, hx⟩ | ⟨hge2, hx⟩
                · have hb : (i + 1) * ti.size ≤ len * ti.size := Nat.mul_le_mul_right _ hlt
                  rw [Nat.add_mul] at hb
                  obtain ⟨c, hc1, hc2⟩ := hcellx i x j d hx hj
                  refine ⟨c, ?_, hc2.mono (fun _ _ => rfl) fun b hb => .inl hb⟩
                  rw [Array.getElem?_append_left (by simp; omega)]
                  simp only [List.getElem?_toArray]
                  rw [List.getElem?_append_left (by omega), List.getElem?_take, if_pos (by omega)]
                  rw [← hcsl] at hc1; simpa using hc1
                · have hb : len * ti.size ≤ i * ti.size := Nat.mul_le_mul_right _ hge2
                  obtain ⟨c, hc1, hc2⟩ := hels (i - len) x j d hx hj
                  have hcn := (List.getElem?_eq_some_iff.1 hc1).1
                  have he : i * ti.size + j - len * ti.size = (i - len) * ti.size + j := by rw [Nat.sub_mul]; omega
                  refine ⟨c, ?_, hc2.mono (fun _ _ => rfl) fun b hb => .inl hb⟩
                  rw [Array.getElem?_append_left (by simp; omega)]
                  simp only [List.getElem?_toArray]
                  rw [List.getElem?_append_right (by omega), hol, he]
                  exact hc1)
            exact ⟨_, _, lam', ok', hrun, he⟩
  | nils =>
    simp only [appTo] at hv
    obtain ⟨hfit, rfl, rfl⟩ := hv
    obtain ⟨news, hsrc, hels⟩ := src_of hT h.hok hx hy hfit.2.2.2.1 hfit.2.2.2.2 htx
    cases hs
    have := append_nil_eff h hf [] ht hte (rty := rty) hsrc hels hfit
    simpa using this

end
end Go.Rx

namespace Go.Rx
open Go Go.RowKit

section
variable {P : Program} {T : Tys} {okIn U : Nat → Prop} {w0 : World} {p : Nat → Prop} {w w' : World} {ok ok' : Nat → Prop} {lam lam' : Nat → Option Nat} {H H' : Heap} {v0 : V} {u0 : Upd} {cv : Value}

theorem run_append_zeros {t tx ty e : TypeId} {i : TypeInfo} {z : Value} {k0 : IntKind} (ht : P.underlying t = some (.slice e)) (htx : P.underlying tx = some (.int k0)) (hi : P.info? e = some i) (hz : i.zero = some z) (hzs : z.cells.size = i.size)
    (k : IntKind) (n : Nat) (hn : 0 < n) (hn2 : n ≤ 4294967296) (hb : i.bytes ≤ 4096) :
    (Builtin.append_ #[t, tx] ty #[.slice none 0 0, .int k n]).run P w =
      .ok (.slice (some ⟨w.heap.size, 0, none⟩) n (grownCap w n 0 e)) (w.drew.alloc (.cells (Builtin.zeroCells z.cells n ++ Builtin.zeroCells z.cells (grownCap w n 0 e - n)) e)) := by
  have hw : IntKind.i64.wrap (n : Int) = n := by
    simp [IntKind.wrap, IntKind.bits, IntKind.signed]
    omega
  have hnn : ¬ (n = 0) := by omega
  have hfit : Builtin.nextslicecap n 0 * i.bytes ≤ 281474976710656 := growslice_fits (by omega) (by
    have : n * i.bytes ≤ 4294967296 * 4096 := Nat.mul_le_mul hn2 hb
    omega)
  have h48 : ¬ (281474976710656 < Builtin.nextslicecap n 0 * i.bytes) := by omega
  have h48' : ¬ (281474976710656 < (n : Int) * (i.bytes : Int)) := by
    have : (n : Int) * (i.bytes : Int) ≤ 4294967296 * 4096 := Int.mul_le_mul (by omega) (by omega) (by omega) (by omega)
    omega
  have h63 : ¬ (9223372036854775807 < (n : Int)) := by omega
  have h0 : ¬ ((n : Int) < 0) := by omega
  by_cases hsz : i.size = 0
  · have hz0 : z.cells = #[] := by have : z.cells.size = 0 := by omega
                                   exact Array.eq_empty_of_size_eq_zero this
    simp [Builtin.append_, run_underlying ht, run_underlying htx, sizeOf, typeInfo, zeroValue, hi, hz, asInt, asIntOf, hw, h0, h48, h48', h63, hnn, hsz, Question.forced, newRow, grownCap, Builtin.firstCells, Builtin.zeroCells, hz0]
    have hr : Array.range 0 = #[] := rfl
    simp [hr]
  · simp [Builtin.append_, run_underlying ht, run_underlying htx, sizeOf, typeInfo, zeroValue, hi, hz, asInt, asIntOf, hw, h0, h48, h48', h63, hnn, hsz, Question.forced, newRow, grownCap, Builtin.firstCells]
    intro hc
    rcases Nat.mul_eq_zero.1 hc with hc | hc
    · omega
    · exact absurd hc hsz

theorem isIntT_und (hT : TyOK P T) {t : Nat} (h : isIntT T (some t) = true) : ∃ k, P.underlying t = some (.int k) := by
  unfold isIntT at h
  simp only at h
  split at h
  · rename_i a b k z hTt
    obtain ⟨info, d, zz, ht⟩ := hT t _ hTt
    have hk := ht.kind
    cases d <;> simp only [kindOK] at hk
    subst hk
    exact ⟨_, ht.und⟩
  · cases h

theorem appZ_eff (hT : TyOK P T) (h : Ctx okIn U w0 p w ok lam H) {tb : Nat} (hf : Fresh p tb) {ty tx rty e : Nat} {it ti : TI} {info infoe : TypeInfo} {z2 ze : Value} {de : TypeDesc} (ht : TyAt P ty it info (.slice e) z2) (hte : TyAt P e ti infoe de ze)
    {s x : V} {sv xv : Value} (hs : VRel w ok lam H s sv) (hx : VRel w ok lam H x xv) (htx : isIntT T (some tx) = true) (hv : appZ tb ti s x (eqK v0 u0)) :
    Does P okIn U w0 p tb w ok lam H v0 u0 (Builtin.append_ #[ty, tx] rty #[sv, xv]) := by
  obtain ⟨k0, hk0⟩ := isIntT_und hT htx
  unfold appZ at hv
  split at hv
  · rename_i k n
    obtain ⟨h1, h2, h3, h4, rfl, rfl⟩ := hv
    cases hs
    cases hx.inv_d
    obtain ⟨m, rfl⟩ : ∃ m : Nat, n = m := ⟨n.toNat, by omega⟩
    have hzl : ze.cells.size = ti.size := by have := hte.zrel.1; rw [h4] at this; simpa using this.symm
    have hzd := zeroD_rel hte.zrel
    have hrun := run_append_zeros (P := P) (w := w) (ty := rty) ht.und hk0 hte.inf hte.zero (by rw [hzl, hte.size]) k m (by omega) (by omega) (by rw [hte.bytes]; exact h3)
    have hge := grownCap_ge w m 0 e
    generalize grownCap w m 0 e = cap at hrun hge
    have hsize : (Builtin.zeroCells ze.cells m ++ Builtin.zeroCells ze.cells (cap - m)).size = cap * ti.size := by
      simp only [Array.size_append, size_zeroCells, hzl, ← Nat.add_mul]
      congr 1; omega
    have hzc : ze.cells = ⟨ze.cells.toList⟩ := rfl
    obtain ⟨lam', ok', he⟩ := newArr_eff (w' := w.drew.alloc (.cells (Builtin.zeroCells ze.cells m ++ Builtin.zeroCells ze.cells (cap - m)) e)) h hf [] (m := ti.size) (len := m) (cap := cap) (xs := List.replicate m (zeroD ti.zero))
      (cs := Builtin.zeroCells ze.cells m ++ Builtin.zeroCells ze.cells (cap - m)) (Te := e) (fr := (0, 0)) (fun b hb => heap_alloc_old w.drew _ b hb) (by simp) ⟨rfl, rfl, rfl⟩ (heap_alloc_new w.drew _)
      (fun i _ => frozen_of_row _ _ i _ e (heap_alloc_new w.drew _)) (fun x hx => by rw [List.eq_of_mem_replicate hx, zeroD_length, h4]) (by simp [MAX]; omega) (by simp) hge (by omega) (by rw [hsize]; simp; exact Nat.mul_le_mul_right _ hge) (fun i x j d hi hj => by
        have hlt : i < m := by have := (List.getElem?_eq_some_iff.1 hi).1; simpa using this
        have hx : x = zeroD ti.zero := List.eq_of_mem_replicate (List.mem_of_getElem? hi)
        subst hx
        obtain ⟨c, hc, hd⟩ := hzd.get hj
        have hjl : j < ti.size := by have := (List.getElem?_eq_some_iff.1 hj).1; rw [zeroD_length, h4] at this; exact this
        refine ⟨c, ?_, hd _ _⟩
        have hb : i * ti.size + j < m * ti.size := by
          have : (i + 1) * ti.size ≤ m * ti.size := Nat.mul_le_mul_right _ hlt
          rw [Nat.add_mul] at this
          omega
        rw [Array.getElem?_append_left (by rw [size_zeroCells, hzl]; exact hb), ← Array.getElem?_toList, hzc, zeroCells_get (m := ti.size) (by simpa using hzl) hb]
        rw [Nat.mul_comm, Nat.mul_add_mod, Nat.mod_eq_of_lt hjl]
        exact hc)
    exact ⟨_, _, lam', ok', hrun, by simpa using he⟩
  · exact hv.elim
end
end Go.Rx

namespace Go.Rx
open Go Go.RowKit

section
variable {P : Program} {T : Tys} {okIn U : Nat → Prop} {w0 : World} {p : Nat → Prop} {w w' : World} {ok ok' : Nat → Prop} {lam lam' : Nat → Option Nat} {H H' : Heap} {v0 : V} {u0 : Upd} {cv : Value}

theorem VGood.all : (x : V) → VGood (fun _ => True) x
  | .d x => .d x
  | .ref _ _ => .ref trivial
  | .el _ _ _ => .el trivial
  | .own _ _ _ => .own trivial
  | .nils => .nils
  | .agg vs => .agg fun v hv => VGood.all v
  | .tup vs => .tup fun v hv => VGood.all v
  | .clo _ vs => .clo fun v hv => VGood.all v
  | .dead => .dead
termination_by x => SizeOf.sizeOf x
decreasing_by all_goals (have := List.sizeOf_lt_of_mem hv; simp; omega)

/-- A renaming of names: what has a new name is there under it. -/
structure Ren (r : Nat → Option Nat) (lam : Nat → Option Nat) (H : Heap) (lam' : Nat → Option Nat) (H' : Heap) : Prop where
  obj : ∀ n k o, r n = some k → H' k = some o → ∃ o0, H n = some o0 ∧ o = renO r o0
  lam : ∀ n k, r n = some k → H' k ≠ none → lam' k = lam n

theorem renO_arr {r : Nat → Option Nat} {o : AObj} {m : Nat} {xs : List (List D)} (h : AObj.arr m xs = renO r o) : o = .arr m xs := by
  cases o with
  | box c => simp [renO] at h
  | arr m' xs' => simp [renO] at h; obtain ⟨rfl, rfl⟩ := h; rfl

theorem renC_rel {r : Nat → Option Nat} (hr : Ren r lam H lam' H') {x : V} {v : Value} (h : VRel w ok lam H x v) : VRel w ok lam' H' (renC r x) v := by
  cases x with
  | ref n off =>
    simp only [renC]
    cases hn : r n with
    | none => exact .dead
    | some k =>
      cases h with | ref h1 h =>
      refine .ref h1 fun o ho => ?_
      obtain ⟨o0, h2, _⟩ := hr.obj n k o hn ho
      obtain ⟨b, hb, hv⟩ := h o0 h2
      exact ⟨b, (hr.lam n k hn (by rw [ho]; simp)).trans hb, hv⟩
  | el n i j =>
    simp only [renC]
    cases hn : r n with
    | none => exact .dead
    | some k =>
      cases h with | el h1 h =>
      refine .el h1 fun m xs ho => ?_
      obtain ⟨o0, h2, h3⟩ := hr.obj n k _ hn ho
      rw [renO_arr h3] at h2
      obtain ⟨hi, b, hb, hv⟩ := h m xs h2
      exact ⟨hi, b, (hr.lam n k hn (by rw [ho]; simp)).trans hb, hv⟩
  | own n off len =>
    simp only [renC]
    cases hn : r n with
    | none => exact .dead
    | some k =>
      cases h with | own h1 h =>
      refine .own h1 fun m xs ho => ?_
      obtain ⟨o0, h2, h3⟩ := hr.obj n k _ hn ho
      rw [renO_arr h3] at h2
      obtain ⟨hle, hc⟩ := h m xs h2
      have hl := hr.lam n k hn (by rw [ho]; simp)
      refine ⟨hle, ?_⟩
      rcases hc with ⟨g1, g2, g3⟩ | ⟨b, o, cap, cs, Te, fr, g1, g2, g3, g4, g5, g6⟩
      · exact .inl ⟨hl.trans g1, g2, g3⟩
      · exact .inr ⟨b, o, cap, cs, Te, fr, hl.trans g1, g2, g3, g4, g5, g6⟩
  | d x => exact .d h.inv_d
  | nils => cases h; exact .nils
  | agg => exact .dead
  | tup => exact .dead
  | clo => exact .dead
  | dead => exact .dead

theorem Rel2.renC {r : Nat → Option Nat} (hr : Ren r lam H lam' H') {xs : List V} {vs : List Value} (h : Rel2 (VRel w ok lam H) xs vs) : Rel2 (VRel w ok lam' H') (xs.map (Go.Rx.renC r)) vs :=
  Rel2.map _ h fun _ _ _ hx => renC_rel hr hx

theorem renA_rel {r : Nat → Option Nat} (hr : Ren r lam H lam' H') {x : V} {v : Value} (h : VRel w ok lam H x v) : VRel w ok lam' H' (renA r x) v := by
  cases x with
  | agg vs => obtain ⟨cs, rfl, h2⟩ := h.inv_agg; exact VRel.mkAgg (h2.renC hr)
  | clo f vs => cases h with | clo hl hd => have := Rel2.renC hr ⟨hl, hd⟩; exact .clo this.1 this.2
  | _ => exact renC_rel hr h

theorem renV_rel {r : Nat → Option Nat} (hr : Ren r lam H lam' H') {x : V} {v : Value} (h : VRel w ok lam H x v) : VRel w ok lam' H' (renV r x) v := by
  cases x with
  | tup vs => obtain ⟨cs, rfl, h2⟩ := h.inv_tup; exact VRel.mkTup (Rel2.map _ h2 fun _ _ _ hx => renA_rel hr hx)
  | _ => exact renA_rel hr h

theorem renO_rel {r : Nat → Option Nat} (hr : Ren r lam H lam' H') {n k : Nat} (hn : r n = some k) (hk : H' k ≠ none) {o : AObj} (h : ObjRel w ok lam H n o) : ObjRel w ok lam' H' k (renO r o) := by
  have hl := hr.lam n k hn hk
  cases o with
  | box cells =>
    obtain ⟨b, cs, Te, h1, h2, h3, h4⟩ := h
    have hrel : Rel2 (VRel w ok lam H) cells cs.toList := ⟨by simpa using h3, fun i x y hx hy => h4 i x y hx (by simpa using hy)⟩
    have h5 := hrel.renC hr
    exact ⟨b, cs, Te, hl.trans h1, h2, by simpa using h5.1, fun i v c hv hc => h5.2 i v c hv (by simpa using hc)⟩
  | arr m xs =>
    obtain ⟨h1, h2, h3⟩ := h
    refine ⟨h1, h2, ?_⟩
    rcases h3 with ⟨g1, g2⟩ | ⟨b, cs, Te, fr, g1, g2⟩
    · exact .inl ⟨hl.trans g1, g2⟩
    · exact .inr ⟨b, cs, Te, fr, hl.trans g1, g2⟩

theorem renC_good {r : Nat → Option Nat} {q : Nat → Prop} (hq : ∀ n k, r n = some k → q k) (x : V) : VGood q (renC r x) := by
  cases x with
  | ref n off => simp only [renC]; cases hn : r n with | none => exact .dead | some k => exact .ref (hq n k hn)
  | el n i j => simp only [renC]; cases hn : r n with | none => exact .dead | some k => exact .el (hq n k hn)
  | own n i j => simp only [renC]; cases hn : r n with | none => exact .dead | some k => exact .own (hq n k hn)
  | d x => exact .d x
  | nils => exact .nils
  | _ => exact .dead

theorem renA_good {r : Nat → Option Nat} {q : Nat → Prop} (hq : ∀ n k, r n = some k → q k) (x : V) : VGood q (renA r x) := by
  cases x with
  | agg vs => exact .agg fun v hv => by obtain ⟨y, _, rfl⟩ := List.mem_map.1 hv; exact renC_good hq y
  | clo f vs => exact .clo fun v hv => by obtain ⟨y, _, rfl⟩ := List.mem_map.1 hv; exact renC_good hq y
  | _ => simp only [renA]; exact renC_good hq _

theorem renV_good {r : Nat → Option Nat} {q : Nat → Prop} (hq : ∀ n k, r n = some k → q k) (x : V) : VGood q (renV r x) := by
  cases x with
  | tup vs => exact .tup fun v hv => by obtain ⟨y, _, rfl⟩ := List.mem_map.1 hv; exact renA_good hq y
  | _ => simp only [renV]; exact renA_good hq _

theorem renO_good {r : Nat → Option Nat} {q : Nat → Prop} (hq : ∀ n k, r n = some k → q k) (o : AObj) : OGood q (renO r o) := by
  cases o with
  | box c => intro v hv; obtain ⟨y, _, rfl⟩ := List.mem_map.1 hv; exact renC_good hq y
  | arr => trivial

/-! ### the index of a name in a list -/

theorem idx_some : ∀ {l : List Nat} {n k : Nat}, idx l n = some k → l[k]? = some n := by
  intro l
  induction l with
  | nil => intro n k h; simp [idx] at h
  | cons m l ih =>
    intro n k h
    simp only [idx] at h
    cases hm : m == n with
    | true => rw [hm] at h; simp at h; subst h; simp at hm; simp [hm]
    | false =>
      rw [hm] at h
      simp only [cond_false] at h
      cases hi : idx l n with
      | none => rw [hi] at h; simp at h
      | some j => rw [hi] at h; simp at h; subst h; simpa using ih hi

theorem nodup_inj : ∀ {l : List Nat}, nodup l = true → ∀ {i j n : Nat}, l[i]? = some n → l[j]? = some n → i = j := by
  intro l
  induction l with
  | nil => intro _ i j n h; simp at h
  | cons m l ih =>
    intro h i j n hi hj
    simp only [nodup, Bool.and_eq_true, Bool.not_eq_true'] at h
    have hnot : ∀ k, l[k]? ≠ some m := fun k hk => by
      have := List.mem_of_getElem? hk
      have h2 : l.contains m = true := by simpa using this
      rw [h2] at h; simp at h
    cases i with
    | zero =>
      simp at hi; subst hi
      cases j with
      | zero => rfl
      | succ j => simp at hj; exact absurd hj (hnot j)
    | succ i =>
      cases j with
      | zero => simp at hj; subst hj; simp at hi; exact absurd hi (hnot i)
      | succ j => simp at hi hj; rw [ih h.2 hi hj]

theorem hget_objs (h : Heap) (r : Nat → Option Nat) : ∀ (l : List Nat) (k j : Nat), hget (objs h r k l) (k + j) = (l[j]?).bind fun n => (h n).map (renO r) := by
  intro l
  induction l with
  | nil => intro k j; simp [objs, hget]
  | cons n l ih =>
    intro k j
    have lt : ∀ (l : List Nat) (k j : Nat), j < k → hget (objs h r k l) j = none := by
      intro l
      induction l with
      | nil => intro k j _; simp [objs, hget]
      | cons a l ih =>
        intro k j hj
        simp only [objs]
        split
        · simp only [hget]
          have : (k == j) = false := by simp; omega
          rw [this]
          exact ih (k + 1) j (by omega)
        · exact ih (k + 1) j (by omega)
    cases j with
    | zero =>
      simp only [objs, List.getElem?_cons_zero, Option.bind_some, Nat.add_zero]
      cases hn : h n with
      | none => simp only [Option.map_none]; exact lt l (k + 1) k (by omega)
      | some o => simp [hget]
    | succ j =>
      simp only [objs, List.getElem?_cons_succ]
      cases hn : h n with
      | none => simp only; rw [show k + (j + 1) = k + 1 + j by omega]; exact ih (k + 1) j
      | some o =>
        simp only [hget]
        have : (k == k + (j + 1)) = false := by simp
        rw [this, show k + (j + 1) = k + 1 + j by omega]
        exact ih (k + 1) j

theorem hget_objs0 (h : Heap) (r : Nat → Option Nat) (l : List Nat) (j : Nat) : hget (objs h r 0 l) j = (l[j]?).bind fun n => (h n).map (renO r) := by
  have := hget_objs h r l 0 j; rwa [Nat.zero_add] at this

/-- Names by their place in a list. -/
theorem ren_idx (H : Heap) (lam : Nat → Option Nat) (l : List Nat) : Ren (idx l) lam H (fun k => (l[k]?).bind lam) (hget (objs H (idx l) 0 l)) := by
  refine ⟨fun n k o hn ho => ?_, fun n k hn _ => by rw [idx_some hn]; rfl⟩
  rw [hget_objs0, idx_some hn] at ho
  simp at ho
  obtain ⟨o0, h1, h2⟩ := ho
  exact ⟨o0, h1, h2.symm⟩

theorem HOK.idx (h : HOK w ok lam H) {l : List Nat} (hnd : nodup l = true) (hok : ∀ b, ok' b → b < w.heap.size) (hsub : ∀ b, ok b → ok' b)
    (hdis : ∀ (k : Nat) n b, l[k]? = some n → H n ≠ none → lam n = some b → ¬ ok' b) : HOK w ok' (fun k => (l[k]?).bind lam) (hget (objs H (idx l) 0 l)) := by
  have hne : ∀ k, hget (objs H (Go.Rx.idx l) 0 l) k ≠ none → ∃ n o, l[k]? = some n ∧ H n = some o ∧ hget (objs H (Go.Rx.idx l) 0 l) k = some (renO (Go.Rx.idx l) o) := fun k hk => by
    rw [hget_objs0] at hk ⊢
    cases hl : l[k]? with
    | none => rw [hl] at hk; simp at hk
    | some n =>
      cases hn : H n with
      | none => rw [hl] at hk; simp [hn] at hk
      | some o => exact ⟨n, o, rfl, hn, by simp [hn]⟩
  refine ⟨fun k k' b hk hk' h1 h2 => ?_, fun k b hk h1 => ?_, fun k b hk h1 => ?_, hok, fun k o ho => ?_⟩
  · obtain ⟨n, o, e1, e2, _⟩ := hne k hk
    obtain ⟨n', o', e3, e4, _⟩ := hne k' hk'
    rw [e1] at h1; rw [e3] at h2
    have := h.inj n n' b (by rw [e2]; simp) (by rw [e4]; simp) h1 h2
    subst this
    exact nodup_inj hnd e1 e3
  · obtain ⟨n, o, e1, e2, _⟩ := hne k hk
    rw [e1] at h1
    exact h.lt n b (by rw [e2]; simp) h1
  · obtain ⟨n, o, e1, e2, _⟩ := hne k hk
    rw [e1] at h1
    exact hdis k n b e1 (by rw [e2]; simp) h1
  · obtain ⟨n, o', e1, e2, e3⟩ := hne k (by rw [ho]; simp)
    rw [ho] at e3
    cases e3
    have hi : Go.Rx.idx l n = some k := by
      have hex : ∃ j, Go.Rx.idx l n = some j := by
        have : ∀ (l : List Nat), n ∈ l → ∃ j, Go.Rx.idx l n = some j := by
          intro l
          induction l with
          | nil => intro h; cases h
          | cons a l ih =>
            intro h
            simp only [Go.Rx.idx]
            cases ha : a == n with
            | true => exact ⟨0, rfl⟩
            | false =>
              rcases List.mem_cons.1 h with rfl | h
              · simp at ha
              · obtain ⟨j, hj⟩ := ih h; exact ⟨j + 1, by rw [hj]; rfl⟩
        exact this l (List.mem_of_getElem? e1)
      obtain ⟨j, hj⟩ := hex
      rw [hj, nodup_inj hnd (idx_some hj) e1]
    have h0 : ObjRel w ok' lam H n o' := by
      have := h.obj n o' e2
      cases o' with
      | box cells =>
        obtain ⟨b, cs, Te, g1, g2, g3, g4⟩ := this
        refine ⟨b, cs, Te, g1, g2, g3, fun i v c hv hc => ?_⟩
        have hv' := g4 i v c hv hc
        exact hv'.mono (p := fun _ => True) (VGood.all v) (fun _ _ => rfl) hsub (fun _ _ _ => rfl) (fun n _ c' hc' => ⟨c', hc'⟩) (fun n _ m xs' hx => ⟨xs', hx, rfl⟩) (fun n b cs T fr m xs' _ _ _ hh => ⟨cs, T, fr, hh, rfl⟩)
      | arr m xs =>
        obtain ⟨g1, g2, g3⟩ := this
        refine ⟨g1, g2, g3.imp id fun ⟨b, cs, Te, fr, k1, k2, k3, k4, k5⟩ => ⟨b, cs, Te, fr, k1, k2, k3, k4, fun i e j d hi hj => ?_⟩⟩
        obtain ⟨c, hc, hd⟩ := k5 i e j d hi hj
        exact ⟨c, hc, hd.mono (fun _ _ => rfl) hsub⟩
    exact renO_rel (ren_idx H lam l) hi (by rw [ho]; simp) h0

end
end Go.Rx

namespace Go.Rx
open Go Go.RowKit

section
variable {P : Program} {T : Tys} {okIn U : Nat → Prop} {w0 : World} {p : Nat → Prop} {w w' : World} {ok ok' : Nat → Prop} {lam lam' : Nat → Option Nat} {H : Heap} {v0 : V} {u0 : Upd} {cv : Value}

theorem Flat.rel {d : D} (h : Flat d) : ∀ {v : Value}, DRel w ok d v → DRel w ok' d v := by
  induction h with
  | int k n => intro v hd; cases hd; exact .int k n
  | bool b => intro v hd; cases hd; exact .bool b
  | str s => intro v hd; cases hd; exact .str s ‹_›
  | nil =>
    intro v hd
    generalize he : D.sl [] = e at hd
    cases hd with
    | sl0 A c => exact .sl0 A c
    | sl xs m b o cap vs hc hm hb hl hv hd => cases he; exact .sl0 _ _
    | _ => cases he
  | agg h ih => intro v hd; cases hd with | agg _ vs hl hd => exact .agg _ vs hl fun i d v h1 h2 => ih d (List.mem_of_getElem? h1) (hd i d v h1 h2)
  | nilp => intro v hd; cases hd; exact .nilp
  | und => intro v hd; cases hd; exact .und

theorem FlatV.rel {x : V} (h : FlatV x) : ∀ {v : Value}, VRel w ok lam H x v → VRel w ok' lam H x v := by
  induction h with
  | d h => intro v hv; exact .d (h.rel hv.inv_d)
  | ref n off => intro v hv; cases hv with | ref h1 h2 => exact .ref h1 h2
  | el n i j => intro v hv; cases hv with | el h1 h2 => exact .el h1 h2
  | own n i j => intro v hv; cases hv with | own h1 h2 => exact .own h1 h2
  | nils => intro v hv; cases hv; exact .nils
  | agg h ih => intro v hv; obtain ⟨cs, rfl, hr⟩ := hv.inv_agg; exact VRel.mkAgg (hr.mono fun x y hx hxy => ih x hx hxy)
  | tup h ih => intro v hv; obtain ⟨cs, rfl, hr⟩ := hv.inv_tup; exact VRel.mkTup (hr.mono fun x y hx hxy => ih x hx hxy)
  | dead => intro v hv; exact .dead

theorem FlatO.rel {o : AObj} (h : FlatO o) {n : Nat} (hv : ObjRel w ok lam H n o) : ObjRel w ok' lam H n o := by
  cases o with
  | box cells =>
    obtain ⟨b, cs, Te, g1, g2, g3, g4⟩ := hv
    exact ⟨b, cs, Te, g1, g2, g3, fun i v c hv hc => (h v (List.mem_of_getElem? hv)).rel (g4 i v c hv hc)⟩
  | arr m xs =>
    obtain ⟨g1, g2, g3⟩ := hv
    refine ⟨g1, g2, g3.imp id fun ⟨b, cs, Te, fr, k1, k2, k3, k4, k5⟩ => ⟨b, cs, Te, fr, k1, k2, k3, k4, fun i e j d hi hj => ?_⟩⟩
    obtain ⟨c, hc, hd⟩ := k5 i e j d hi hj
    exact ⟨c, hc, (h e (List.mem_of_getElem? hi) d (List.mem_of_getElem? hj)).rel hd⟩

def ArgRel (w : World) (ok : Nat → Prop) (lam : Nat → Option Nat) (H : Heap) (ps bs : List Nat) : Arg → Value → Prop
  | .dat x, v => DRel w (okB ok lam H bs) x v
  | .box n, v => (∃ cells, H n = some (.box cells)) ∧ n ∈ ps ∧ ∃ b, lam n = some b ∧ v = .pointer (some ⟨b, 0, none⟩)
  | .own n off len, v => (∃ m xs, H n = some (.arr m xs)) ∧ n ∈ ps ∧ VRel w ok lam H (.own n off len) v
  | .nils, v => v = .slice none 0 0

theorem ArgRel.mono {ps bs ps' bs' : List Nat} (h1 : ∀ n ∈ ps, n ∈ ps') (h2 : ∀ n ∈ bs, n ∈ bs') {a : Arg} {v : Value} (h : ArgRel w ok lam H ps bs a v) : ArgRel w ok lam H ps' bs' a v := by
  cases a with
  | dat x => exact DRel.mono h (fun _ _ => rfl) fun b hb => okB_mono hb h2
  | box n => exact ⟨h.1, h1 n h.2.1, h.2.2⟩
  | own n off len => exact ⟨h.1, h1 n h.2.1, h.2.2⟩
  | nils => exact h

theorem gather_sound (hk : HOK w ok lam H) : ∀ {args : List V} {ms : List Bool} {vs : List Value} {as : List Arg} {ps bs : List Nat}, Rel2 (VRel w ok lam H) args vs → gather H ms args = some (as, ps, bs) → Rel2 (ArgRel w ok lam H ps bs) as vs := by
  intro args
  induction args with
  | nil => intro ms vs as ps bs hr h; rw [hr.nil_left]; simp [gather] at h; rw [h.1]; exact Rel2.nil _
  | cons x xs ih =>
    intro ms vs as ps bs hr h
    obtain ⟨v, m, rfl, hv, hm⟩ := hr.uncons
    simp only [gather] at h
    cases hg : gather H (ms.drop 1) xs with
    | none => rw [hg] at h; simp at h
    | some q =>
      obtain ⟨as2, ps2, bs2⟩ := q
      rw [hg] at h
      simp only at h
      have hrec := ih hm hg
      have dat : ∀ (y : V), VRel w ok lam H y v → gatherD H y as2 ps2 bs2 = some (as, ps, bs) → Rel2 (ArgRel w ok lam H ps bs) as (v :: m) := by
        intro y hy h
        unfold gatherD at h
        cases hd : toD H y with
        | none => rw [hd] at h; simp at h
        | some q =>
          obtain ⟨d, l⟩ := q
          rw [hd] at h
          simp at h
          obtain ⟨rfl, rfl, rfl⟩ := h
          exact Rel2.cons (DRel.mono (toD_sound hk hy hd) (fun _ _ => rfl) fun b hb => okB_mono hb (by simp; intro n hn; exact .inl hn)) (hrec.mono fun _ _ _ ha => ha.mono (fun _ h => h) (by simp; intro n hn; exact .inr hn))
      cases x with
      | ref n off =>
        cases off with
        | zero =>
          cases hn : H n with
          | none => cases ms.headD false <;> simp [gather1, hn] at h
          | some ob =>
            cases ob with
            | arr m xs => cases ms.headD false <;> simp [gather1, hn] at h
            | box cells =>
              have h : as = .box n :: as2 ∧ ps = refO H n ++ ps2 ∧ bs = bs2 := by cases hmd : ms.headD false <;> simp [gather1, hn, hmd] at h <;> exact ⟨h.1.symm, h.2.1.symm, h.2.2.symm⟩
              obtain ⟨rfl, rfl, rfl⟩ := h
              cases hv with | ref _ hv =>
              obtain ⟨b, hb, rfl⟩ := hv _ hn
              refine Rel2.cons ⟨⟨cells, hn⟩, ?_, b, hb, rfl⟩ (hrec.mono fun _ _ _ ha => ha.mono (by simp; intro n hn; exact .inr hn) (fun _ h => h))
              simp [refO, hn]
        | succ off => cases hmd : ms.headD false <;> rw [hmd] at h <;> exact dat _ hv h
      | own n off len =>
        cases hmd : ms.headD false with
        | false => rw [hmd] at h; exact dat _ hv h
        | true =>
          rw [hmd] at h
          cases hn : H n with
          | none => simp [gather1, hn] at h
          | some ob =>
            cases ob with
            | box c => simp [gather1, hn] at h
            | arr m xs =>
              simp [gather1, hn] at h
              obtain ⟨rfl, rfl, rfl⟩ := h
              exact Rel2.cons ⟨⟨m, xs, hn⟩, by simp, hv⟩ (hrec.mono fun _ _ _ ha => ha.mono (fun k hk => List.mem_cons_of_mem _ hk) (fun _ h => h))
      | nils =>
        cases hmd : ms.headD false with
        | false => rw [hmd] at h; exact dat _ hv h
        | true =>
          rw [hmd] at h
          simp [gather1] at h
          obtain ⟨rfl, rfl, rfl⟩ := h
          cases hv
          exact Rel2.cons rfl hrec
      | _ => cases hmd : ms.headD false <;> rw [hmd] at h <;> exact dat _ hv h

/-- A name that was handed on comes back: as a pointer to a box, or as an array. -/
inductive OutAs : Arg → V → Nat → Nat → Prop
  | box (n j off : Nat) : OutAs (.box n) (.ref j off) n j
  | own (n off len j off' len' : Nat) : OutAs (.own n off len) (.own j off' len') n j

theorem backTo_some : ∀ {as : List Arg} {os : List V} {j n : Nat}, backTo as os j = some n → ∃ (i : Nat) (a : Arg) (o : V), as[i]? = some a ∧ os[i]? = some o ∧ OutAs a o n j := by
  intro as
  induction as with
  | nil => intro os j n h; cases os <;> simp [backTo] at h
  | cons a as ih =>
    intro os j n h
    cases os with
    | nil => cases a <;> simp [backTo] at h
    | cons o os =>
      have rec_ : backTo as os j = some n → ∃ (i : Nat) (a' : Arg) (o' : V), (a :: as)[i]? = some a' ∧ (o :: os)[i]? = some o' ∧ OutAs a' o' n j := fun h => by
        obtain ⟨i, a', o', h1, h2, h3⟩ := ih h
        exact ⟨i + 1, a', o', by simpa using h1, by simpa using h2, h3⟩
      cases a with
      | dat x => exact rec_ (by simpa [backTo] using h)
      | nils => exact rec_ (by simpa [backTo] using h)
      | box m =>
        cases o with
        | ref k off =>
          simp only [backTo] at h
          cases hk : k == j with
          | true => rw [hk] at h; simp at h hk; subst h; subst hk; exact ⟨0, _, _, rfl, rfl, .box _ _ _⟩
          | false => rw [hk] at h; exact rec_ h
        | _ => exact rec_ (by simpa [backTo] using h)
      | own m off len =>
        cases o with
        | own k off' len' =>
          simp only [backTo] at h
          cases hk : k == j with
          | true => rw [hk] at h; simp at h hk; subst h; subst hk; exact ⟨0, _, _, rfl, rfl, .own _ _ _ _ _ _⟩
          | false => rw [hk] at h; exact rec_ h
        | _ => exact rec_ (by simpa [backTo] using h)

theorem names_inj : ∀ {as : List Arg}, nodup (as.filterMap Arg.name?) = true → ∀ {i i' : Nat} {a a' : Arg} {n : Nat}, as[i]? = some a → a.name? = some n → as[i']? = some a' → a'.name? = some n → i = i' := by
  intro as
  induction as with
  | nil => intro _ i i' a a' n h; simp at h
  | cons x as ih =>
    intro h i i' a a' n h1 h2 h3 h4
    have htl : nodup (as.filterMap Arg.name?) = true := by
      cases hx : x.name? with
      | none => simpa [List.filterMap_cons, hx] using h
      | some k => simp only [List.filterMap_cons, hx, nodup, Bool.and_eq_true] at h; exact h.2
    have hd : ∀ (k j : Nat) (y : Arg), x.name? = some k → as[j]? = some y → y.name? = some k → False := fun k j y hx hy hyk => by
      simp only [List.filterMap_cons, hx, nodup, Bool.and_eq_true, Bool.not_eq_true'] at h
      have : (as.filterMap Arg.name?).contains k = true := by
        simp only [List.contains_iff_mem, List.mem_filterMap]
        exact ⟨y, List.mem_of_getElem? hy, hyk⟩
      rw [this] at h; cases h.1
    cases i with
    | zero =>
      cases i' with
      | zero => rfl
      | succ i' => simp at h1 h3; subst h1; exact (hd n i' a' h2 h3 h4).elim
    | succ i =>
      cases i' with
      | zero => simp at h1 h3; subst h3; exact (hd n i a h4 h1 h2).elim
      | succ i' => exact congrArg (· + 1) (ih htl (i := i) (i' := i') (by simpa using h1) h2 (by simpa using h3) h4)

theorem OutAs.name {a : Arg} {o : V} {n j : Nat} (h : OutAs a o n j) : a.name? = some n := by cases h <;> rfl
theorem OutAs.inj {a : Arg} {o : V} {n j j' : Nat} (h : OutAs a o n j) (h' : OutAs a o n j') : j = j' := by cases h <;> cases h' <;> rfl

theorem outsFit_at : ∀ {H' : List (Nat × AObj)} {as : List Arg} {os : List V}, outsFit H' as os = true → ∀ (i n : Nat), as[i]? = some (.box n) → ∃ k, os[i]? = some (.ref k 0) ∧ ∃ c, hget H' k = some (.box c) := by
  intro H' as
  induction as with
  | nil => intro os h i n hi; simp at hi
  | cons a as ih =>
    intro os h i n hi
    cases os with
    | nil => cases a <;> simp [outsFit] at h
    | cons o os =>
      have rec_ : outsFit H' as os = true → (∀ m, a ≠ .box m) → ∃ k, (o :: os)[i]? = some (.ref k 0) ∧ ∃ c, hget H' k = some (.box c) := fun h hne => by
        cases i with
        | zero => simp at hi; exact absurd hi (hne n)
        | succ i => obtain ⟨k, h1, h2⟩ := ih h i n (by simpa using hi); exact ⟨k, by simpa using h1, h2⟩
      cases a with
      | dat x => exact rec_ (by simpa [outsFit] using h) (fun _ e => by cases e)
      | nils => exact rec_ (by simpa [outsFit] using h) (fun _ e => by cases e)
      | own m off len => cases o <;> simp [outsFit] at h <;> first | exact rec_ h (fun _ e => by cases e) | exact rec_ h.2 (fun _ e => by cases e)
      | box m =>
        cases o with
        | ref k off =>
          cases off with
          | zero =>
            simp only [outsFit, Bool.and_eq_true] at h
            cases i with
            | zero =>
              refine ⟨k, rfl, ?_⟩
              cases hk : hget H' k with
              | none => rw [hk] at h; simp [isBox] at h
              | some o => cases o with
                | box c => exact ⟨c, rfl⟩
                | arr m xs => rw [hk] at h; simp [isBox] at h
            | succ i => obtain ⟨k', h1, h2⟩ := ih h.2 i n (by simpa using hi); exact ⟨k', by simpa using h1, h2⟩
          | succ off => simp [outsFit] at h
        | _ => simp [outsFit] at h

theorem outsFit_own : ∀ {H' : List (Nat × AObj)} {as : List Arg} {os : List V}, outsFit H' as os = true → ownFit H H' as os → ∀ (i n off len k off' len' : Nat), as[i]? = some (.own n off len) → os[i]? = some (.own k off' len') →
    ∃ m xs, hget H' k = some (.arr m xs) ∧ sameLen (H n) (hget H' k) := by
  intro H' as
  induction as with
  | nil => intro os h _ i n off len k off' len' hi; simp at hi
  | cons a as ih =>
    intro os h hf i n off len k off' len' hi ho
    cases os with
    | nil => simp at ho
    | cons o os =>
      cases i with
      | zero =>
        simp at hi ho
        subst hi; subst ho
        simp only [outsFit, Bool.and_eq_true] at h
        simp only [ownFit] at hf
        cases hk : hget H' k with
        | none => rw [hk] at h; simp [isArr] at h
        | some o => cases o with
          | box c => rw [hk] at h; simp [isArr] at h
          | arr m xs => exact ⟨m, xs, rfl, hk ▸ hf.1⟩
      | succ i =>
        have h2 : outsFit H' as os = true := by
          cases a with
          | dat x => simpa [outsFit] using h
          | nils => simpa [outsFit] using h
          | own m off len => cases o <;> simp [outsFit] at h <;> first | exact h | exact h.2
          | box m =>
            cases o with
            | ref k off => cases off with
              | zero => simp only [outsFit, Bool.and_eq_true] at h; exact h.2
              | succ off => simp [outsFit] at h
            | _ => simp [outsFit] at h
        have hf2 : ownFit H H' as os := by
          cases a with
          | own m off len => cases o <;> first | exact hf | exact hf.2
          | _ => exact hf
        exact ih h2 hf2 i n off len k off' len' (by simpa using hi) (by simpa using ho)

theorem hget_mem : ∀ {l : List (Nat × AObj)} {k : Nat} {o : AObj}, hget l k = some o → (k, o) ∈ l := by
  intro l
  induction l with
  | nil => intro k o h; simp [hget] at h
  | cons a l ih =>
    intro k o h
    obtain ⟨m, o'⟩ := a
    simp only [hget] at h
    cases hm : m == k with
    | true => rw [hm] at h; simp at h hm; subst h; subst hm; exact List.mem_cons_self
    | false => rw [hm] at h; exact List.mem_cons_of_mem _ (ih h)

theorem hasKey_iff : ∀ {l : List (Nat × AObj)} {k : Nat}, hasKey l k = true ↔ hget l k ≠ none := by
  intro l
  induction l with
  | nil => intro k; simp [hasKey, hget]
  | cons a l ih =>
    intro k
    obtain ⟨m, o⟩ := a
    simp only [hasKey, hget, Bool.or_eq_true]
    cases hm : m == k with
    | true => simp
    | false => simp [ih]

theorem mem_hget : ∀ {l : List (Nat × AObj)}, nodup (l.map (·.1)) = true → ∀ {q : Nat × AObj}, q ∈ l → hget l q.1 = some q.2 := by
  intro l
  induction l with
  | nil => intro _ q h; cases h
  | cons a l ih =>
    intro h q hq
    obtain ⟨m, o⟩ := a
    simp only [List.map_cons, nodup, Bool.and_eq_true, Bool.not_eq_true'] at h
    rcases List.mem_cons.1 hq with rfl | hq
    · simp [hget]
    · simp only [hget]
      have hne : (m == q.1) = false := by
        cases hm : m == q.1 with
        | false => rfl
        | true =>
          simp at hm
          have : (l.map (·.1)).contains m = true := by simp; exact ⟨q.2, by rw [hm]; exact hq⟩
          rw [this] at h; simp at h
      rw [hne]
      exact ih h.2 hq

theorem upd_map (r : Nat → Option Nat) (n : Nat) : ∀ (L : List (Nat × AObj)) (G : Heap),
    (∃ q ∈ L, (r q.1).getD 0 = n ∧ updF (L.map fun q => ((r q.1).getD 0, some (renO r q.2))) G n = some (renO r q.2)) ∨
    ((∀ q ∈ L, (r q.1).getD 0 ≠ n) ∧ updF (L.map fun q => ((r q.1).getD 0, some (renO r q.2))) G n = G n) := by
  intro L
  induction L with
  | nil => intro G; exact .inr ⟨by simp, rfl⟩
  | cons x L ih =>
    intro G
    simp only [List.map_cons, updF_cons]
    rcases ih (fun m => if (r x.1).getD 0 = m then some (renO r x.2) else G m) with ⟨q, hq, h1, h2⟩ | ⟨h1, h2⟩
    · exact .inl ⟨q, List.mem_cons_of_mem _ hq, h1, h2⟩
    · by_cases hx : (r x.1).getD 0 = n
      · exact .inl ⟨x, List.mem_cons_self, hx, by rw [h2, if_pos hx]⟩
      · refine .inr ⟨fun q hq => ?_, by rw [h2, if_neg hx]⟩
        rcases List.mem_cons.1 hq with rfl | hq
        · exact hx
        · exact h1 q hq

end
end Go.Rx

namespace Go.Rx
open Go Go.RowKit

theorem flat1_cases (b : Bool) (v : V) : (∃ cs, v = .agg cs ∧ cs.all simpleV = true ∧ flat1 b v = cs ∧ ∀ fl, grp1 b v fl = .agg fl) ∨ (flat1 b v = [v] ∧ ∀ fl, grp1 b v fl = fl.headD .dead) := by
  cases b with
  | false => exact .inr ⟨by cases v <;> rfl, fun fl => by cases v <;> rfl⟩
  | true => cases v with
    | agg cs =>
      cases hc : cs.all simpleV with
      | true => exact .inl ⟨cs, rfl, hc, by simp [flat1, hc], fun _ => by simp [grp1, hc]⟩
      | false => exact .inr ⟨by simp [flat1, hc], fun _ => by simp [grp1, hc]⟩
    | _ => exact .inr ⟨rfl, fun _ => rfl⟩
theorem Rel2.append2 {α β : Type} {R : α → β → Prop} {a c : List α} {b d : List β} (h1 : Rel2 R a b) (h2 : Rel2 R c d) : Rel2 R (a ++ c) (b ++ d) := by
  refine ⟨by rw [List.length_append, List.length_append, h1.1, h2.1], fun i x y hx hy => ?_⟩
  by_cases hi : i < a.length
  · rw [List.getElem?_append_left hi] at hx
    rw [List.getElem?_append_left (h1.1 ▸ hi)] at hy
    exact h1.2 i x y hx hy
  · rw [List.getElem?_append_right (by omega)] at hx
    rw [List.getElem?_append_right (by have := h1.1; omega)] at hy
    exact h2.2 _ x y hx (h1.1 ▸ hy)
theorem grpA_len : ∀ {sh : List Bool} {args fl : List V}, fl.length = (flatA sh args).length → (grpA sh args fl).length = args.length
  | [], args, fl, h => h
  | _ :: _, [], fl, h => rfl
  | b :: sh, v :: args, fl, h => by
    simp only [flatA, List.length_append] at h
    simp only [grpA, List.length_cons]
    rw [grpA_len (by rw [List.length_drop]; omega)]

theorem flat_rel {w : World} {ok : Nat → Prop} {lam : Nat → Option Nat} {H : Heap} : ∀ {sh : List Bool} {args : List V} {vs : List Value}, Rel2 (VRel w ok lam H) args vs →
    ∃ ws, Rel2 (VRel w ok lam H) (flatA sh args) ws ∧
      (∀ (w' : World) (ok' : Nat → Prop) (lam' : Nat → Option Nat) (H' : Heap) (fl : List V), fl.length = (flatA sh args).length →
        (Rel2 (VRel w' ok' lam' H') fl ws ↔ Rel2 (VRel w' ok' lam' H') (grpA sh args fl) vs))
  | [], args, vs, hr => ⟨vs, hr, fun _ _ _ _ _ _ => Iff.rfl⟩
  | _ :: _, [], vs, hr => by
    obtain rfl := hr.nil_left
    exact ⟨[], Rel2.nil _, fun _ _ _ _ fl hfl => by
      have : fl = [] := List.eq_nil_of_length_eq_zero hfl
      subst this; exact Iff.rfl⟩
  | b :: sh, v :: args, vs, hr => by
    obtain ⟨x, m, rfl, hv, hm⟩ := hr.uncons
    obtain ⟨ws, h1, h2⟩ := flat_rel (sh := sh) hm
    rcases flat1_cases b v with ⟨cs, rfl, _, e1, e2⟩ | ⟨e1, e2⟩
    · obtain ⟨xs, rfl, hx⟩ := hv.inv_agg
      refine ⟨xs ++ ws, ?_, fun w' ok' lam' H' fl hfl => ?_⟩
      · simp only [flatA, e1]; exact hx.append2 h1
      · simp only [flatA, e1, List.length_append] at hfl
        simp only [grpA, e1, e2]
        have hd : (fl.drop cs.length).length = (flatA sh args).length := by rw [List.length_drop]; omega
        have h3 := h2 w' ok' lam' H' (fl.drop cs.length) hd
        constructor
        · intro h
          have ha : Rel2 (VRel w' ok' lam' H') (fl.take cs.length) xs := by
            refine ⟨by rw [List.length_take, ← hx.1]; omega, fun i y z hy hz => ?_⟩
            rw [List.getElem?_take] at hy
            split at hy
            · exact h.2 i y z hy (by rw [List.getElem?_append_left (by rw [← hx.1]; assumption)]; exact hz)
            · cases hy
          have hb : Rel2 (VRel w' ok' lam' H') (fl.drop cs.length) ws := by
            refine ⟨by rw [hd, h1.1], fun i y z hy hz => ?_⟩
            rw [List.getElem?_drop] at hy
            exact h.2 _ y z hy (by rw [hx.1, List.getElem?_append_right (by omega)]; rw [Nat.add_sub_cancel_left]; exact hz)
          exact Rel2.cons (VRel.mkAgg ha) (h3.1 hb)
        · intro h
          obtain ⟨x', m', e, ha, hb⟩ := h.uncons
          obtain ⟨rfl, rfl⟩ := List.cons.inj e
          obtain ⟨xs', e', ha'⟩ := ha.inv_agg
          have : xs' = xs := by cases e'; rfl
          subst this
          have := ha'.append2 (h3.2 hb)
          rwa [List.take_append_drop] at this
    · refine ⟨x :: ws, ?_, fun w' ok' lam' H' fl hfl => ?_⟩
      · simp only [flatA, e1]; exact Rel2.cons hv h1
      · simp only [flatA, e1, List.length_append, List.length_cons, List.length_nil] at hfl
        simp only [grpA, e1, e2]
        cases fl with
        | nil => rw [List.length_nil] at hfl; omega
        | cons y fl =>
          have hd : fl.length = (flatA sh args).length := by simp at hfl; omega
          have h3 := h2 w' ok' lam' H' fl hd
          show Rel2 _ (y :: fl) (x :: ws) ↔ Rel2 _ (y :: grpA sh args fl) (x :: m)
          constructor
          · intro h
            obtain ⟨x', m', e, ha, hb⟩ := h.uncons
            obtain ⟨rfl, rfl⟩ := List.cons.inj e
            exact Rel2.cons ha (h3.1 hb)
          · intro h
            obtain ⟨x', m', e, ha, hb⟩ := h.uncons
            obtain ⟨rfl, rfl⟩ := List.cons.inj e
            exact Rel2.cons ha (h3.2 hb)
theorem outsFit_len {H' : List (Nat × AObj)} : ∀ {as : List Arg} {os : List V}, outsFit H' as os = true → as.length = os.length
  | [], [], _ => rfl
  | [], _ :: _, h => by simp [outsFit] at h
  | a :: as, [], h => by cases a <;> simp [outsFit] at h
  | a :: as, o :: os, h => by
    have h2 : outsFit H' as os = true := by
      cases a with
      | dat x => simpa [outsFit] using h
      | nils => simpa [outsFit] using h
      | own m off len => cases o <;> simp [outsFit] at h <;> first | exact h | exact h.2
      | box m =>
        cases o with
        | ref k off => cases off with
          | zero => simp only [outsFit, Bool.and_eq_true] at h; exact h.2
          | succ off => simp [outsFit] at h
        | _ => simp [outsFit] at h
    simp [outsFit_len h2]
theorem flatA_ref : ∀ {sh : List Bool} {args : List V} {n : Nat}, n ∈ (flatA sh args).flatMap refV → n ∈ args.flatMap refV
  | [], args, n, h => h
  | _ :: _, [], n, h => h
  | b :: sh, v :: args, n, h => by
    simp only [flatA, List.flatMap_append, List.mem_append] at h
    rw [List.flatMap_cons, List.mem_append]
    rcases h with h | h
    · left
      rcases flat1_cases b v with ⟨cs, rfl, hc, e1, _⟩ | ⟨e1, _⟩
      · rw [e1] at h
        obtain ⟨c, hcm, hn⟩ := List.mem_flatMap.1 h
        have hs := List.all_eq_true.1 hc c hcm
        refine List.mem_flatMap.2 ⟨c, hcm, ?_⟩
        cases c <;> first | exact hn | simp [simpleV] at hs
      · rw [e1] at h
        simpa using h
    · exact .inr (flatA_ref h)
end Go.Rx

namespace Go.Rx
open Go Go.RowKit

section
variable {P : Program} {T : Tys} {okIn U : Nat → Prop} {w0 : World} {p : Nat → Prop} {w w' : World} {ok ok' : Nat → Prop} {lam lam' : Nat → Option Nat} {H : Heap} {v0 : V} {u0 : Upd} {cv : Value}

/-- The state behind a call. -/
theorem after_call (h : Ctx okIn U w0 p w ok lam H) {tb : Nat} (hf : Fresh p tb) {vs : List Value} {as : List Arg} {ps bs gone : List Nat} {outs : List V} {res : V} {H2 : List (Nat × AObj)}
    (hargs : Rel2 (ArgRel w ok lam H ps bs) as vs) (hfit : outsFit H2 as outs = true) (hown : ownFit H H2 as outs) (hnm : nodup (as.filterMap Arg.name?) = true) (hsk : smallKeys H2 = true) (hgp : ∀ n ∈ ps, n ∈ gone)
    {lam2 : Nat → Option Nat} {ok2 okn : Nat → Prop}
    (hfr : Fr (fun b => ∃ n, hget (objs H (idx ps) 0 ps) n ≠ none ∧ (fun k => (ps[k]?).bind lam) n = some b) w w')
    (hk2 : HOK w' ok2 lam2 (hget H2)) (hres : VRel w' okn lam2 (hget H2) res cv) (hobj : ∀ n o, hget H2 n = some o → ObjRel w' okn lam2 (hget H2) n o)
    (houts : ∀ (i : Nat) x v, outs[i]? = some x → vs[i]? = some v → VRel w' ok2 lam2 (hget H2) x v)
    (hown2 : ∀ n b, hget H2 n ≠ none → lam2 n = some b → (∃ n', hget (objs H (idx ps) 0 ps) n' ≠ none ∧ (fun k => (ps[k]?).bind lam) n' = some b) ∨ w.heap.size ≤ b)
    (hon : ∀ b, ok b → okn b) (honlt : ∀ b, okn b → b < w'.heap.size) (honU : ∀ b, okn b → okIn b ∨ U b ∨ w0.heap.size ≤ b)
    (hond : ∀ n b, H n ≠ none → n ∉ gone → lam n = some b → ¬ okn b) (hond2 : ∀ n b, hget H2 n ≠ none → lam2 n = some b → ¬ okn b) :
    ∃ lam', Eff okIn U w0 p (pX p tb) w ok lam H (renV (back tb as outs H2) res) (updF (updOf tb as outs gone H2) H) w' cv lam' okn := by
  simp only [smallKeys, Bool.and_eq_true] at hsk
  obtain ⟨hkeys, hsmall⟩ := hsk
  have hlt1000 : ∀ k, hget H2 k ≠ none → k < 1000 := fun k hk => by
    cases hh : hget H2 k with
    | none => exact absurd hh hk
    | some o => have := List.all_eq_true.1 hsmall _ (hget_mem hh); simpa using this
  have hpsd : ∀ n ∈ ps, H n ≠ none → ∃ k, ps[k]? = some n ∧ hget (objs H (idx ps) 0 ps) k ≠ none := fun n hn hne => by
    obtain ⟨k, hk, rfl⟩ := List.mem_iff_getElem.1 hn
    refine ⟨k, List.getElem?_eq_getElem hk, ?_⟩
    rw [hget_objs0, List.getElem?_eq_getElem hk]
    simpa using hne
  -- owned blocks of what was passed
  have hpas : ∀ b, (∃ n, hget (objs H (idx ps) 0 ps) n ≠ none ∧ (fun k => (ps[k]?).bind lam) n = some b) ↔ ∃ n ∈ ps, H n ≠ none ∧ lam n = some b := fun b => by
    constructor
    · rintro ⟨k, hk, hb⟩
      rw [hget_objs0] at hk
      have hb : (ps[k]?).bind lam = some b := hb
      cases hl : ps[k]? with
      | none => rw [hl] at hk; simp at hk
      | some n => rw [hl] at hk hb; exact ⟨n, List.mem_of_getElem? hl, by simpa using hk, by simpa using hb⟩
    · rintro ⟨n, hn, hne, hb⟩
      obtain ⟨k, h1, h2⟩ := hpsd n hn hne
      exact ⟨k, h2, by show (ps[k]?).bind lam = some b; rw [h1]; exact hb⟩
  have hblk : ∀ k, k < w.heap.size → (∀ n ∈ ps, H n ≠ none → lam n ≠ some k) → w'.heap[k]? = w.heap[k]? := fun k hk hn => hfr.block k hk fun hc => by
    obtain ⟨n, h1, h2, h3⟩ := (hpas k).1 hc
    exact hn n h1 h2 h3
  let r := back tb as outs H2
  -- what comes back
  have hback : ∀ (i : Nat) (a : Arg) (o : V) (n k : Nat), as[i]? = some a → outs[i]? = some o → OutAs a o n k →
      lam2 k = lam n ∧ n ∈ ps ∧ hget H2 k ≠ none ∧ H n ≠ none ∧
      ((∃ c c0, hget H2 k = some (AObj.box c) ∧ H n = some (AObj.box c0)) ∨ (∃ m xs xs', hget H2 k = some (AObj.arr m xs') ∧ H n = some (AObj.arr m xs) ∧ xs.length = xs'.length)) := fun i a o n k hi ho hao => by
    obtain ⟨v, hv, ha⟩ := hargs.get hi
    have hov := houts i _ _ ho hv
    cases hao with
    | box _ _ off =>
      obtain ⟨k', h1, c, h2⟩ := outsFit_at hfit i n hi
      rw [ho] at h1; cases h1
      obtain ⟨⟨c0, hc0⟩, hnp, b, hb, rfl⟩ := ha
      cases hov with | ref _ ho' =>
      obtain ⟨b', hb', he⟩ := ho' _ h2
      simp at he
      subst he
      exact ⟨hb'.trans hb.symm, hnp, by rw [h2]; simp, by rw [hc0]; simp, .inl ⟨c, c0, h2, hc0⟩⟩
    | own _ off len _ off' len' =>
      obtain ⟨m', xs', h1, h2⟩ := outsFit_own hfit hown i n off len k off' len' hi ho
      obtain ⟨⟨m, xs, hn⟩, hnp, hvn⟩ := ha
      rw [hn, h1] at h2
      obtain ⟨rfl, h3⟩ := h2
      refine ⟨?_, hnp, by rw [h1]; simp, by rw [hn]; simp, .inr ⟨m, xs, xs', h1, hn, h3⟩⟩
      cases hvn with | own _ g1 =>
      cases hov with | own _ g2 =>
      obtain ⟨_, q1⟩ := g1 _ _ hn
      obtain ⟨_, q2⟩ := g2 _ _ h1
      rcases q1 with ⟨e1, e2, _⟩ | ⟨b, o, cap, cs, T, fr, e1, e2, _⟩
      · rcases q2 with ⟨f1, _, _⟩ | ⟨b', o', cap', cs', T', fr', f1, f2, _⟩
        · rw [e1, f1]
        · rw [e2] at f2; cases f2
      · rcases q2 with ⟨f1, f2, _⟩ | ⟨b', o', cap', cs', T', fr', f1, f2, _⟩
        · rw [e2] at f2; cases f2
        · rw [e2] at f2; cases f2; rw [e1, f1]
  have hr : ∀ j n, r j = some n → hget H2 j ≠ none ∧ ((∃ (i : Nat) (a : Arg) (o : V), as[i]? = some a ∧ outs[i]? = some o ∧ OutAs a o n j) ∨ (n = tb + j)) := fun j n hj => by
    simp only [r, back] at hj
    cases hb : backTo as outs j with
    | some m =>
      rw [hb] at hj
      simp [orElse] at hj
      subst hj
      obtain ⟨i, a, o, h1, h2, h3⟩ := backTo_some hb
      exact ⟨(hback i a o m j h1 h2 h3).2.2.1, .inl ⟨i, a, o, h1, h2, h3⟩⟩
    | none =>
      rw [hb] at hj
      cases hk : hasKey H2 j with
      | false => rw [hk] at hj; simp [orElse] at hj
      | true => rw [hk] at hj; simp [orElse] at hj; exact ⟨hasKey_iff.1 hk, .inr hj.symm⟩
  have hrk : ∀ j, hget H2 j ≠ none → ∃ n, r j = some n := fun j hj => by
    simp only [r, back]
    cases hb : backTo as outs j with
    | some m => exact ⟨m, rfl⟩
    | none => rw [hasKey_iff.2 hj]; exact ⟨tb + j, rfl⟩
  have hpn : ∀ n, H n ≠ none → p n := h.dom
  have hinj : ∀ j j' n, r j = some n → r j' = some n → j = j' := fun j j' n h1 h2 => by
    obtain ⟨a1, a2⟩ := hr j n h1
    obtain ⟨b1, b2⟩ := hr j' n h2
    rcases a2 with ⟨i, a, o, e1, e2, e3⟩ | e1
    · rcases b2 with ⟨i', a', o', f1, f2, f3⟩ | f1
      · have := names_inj hnm e1 e3.name f1 f3.name
        subst this
        rw [e1] at f1; cases f1
        rw [e2] at f2; cases f2
        exact e3.inj f3
      · exact absurd (hpn n (hback i a o n j e1 e2 e3).2.2.2.1) (hf n (by omega) (by have := hlt1000 j' b1; omega))
    · rcases b2 with ⟨i', a', o', f1, f2, f3⟩ | f1
      · exact absurd (hpn n (hback i' a' o' n j' f1 f2 f3).2.2.2.1) (hf n (by omega) (by have := hlt1000 j a1; omega))
      · omega
  have hrange : ∀ j n, r j = some n → pX p tb n := fun j n hj => by
    obtain ⟨a1, a2⟩ := hr j n hj
    rcases a2 with ⟨i, a, o, e1, e2, e3⟩ | e1
    · exact .inl (hpn n (hback i a o n j e1 e2 e3).2.2.2.1)
    · have := hlt1000 j a1
      exact .inr ⟨by omega, by omega⟩
  let H3 : Heap := updF (updOf tb as outs gone H2) H
  let lamn : Nat → Option Nat := fun n => match H2.find? (fun q => r q.1 == some n) with | some q => lam2 q.1 | none => lam n
  have hH3 : ∀ n, (∃ k o, hget H2 k = some o ∧ r k = some n ∧ H3 n = some (renO r o) ∧ lamn n = lam2 k) ∨ ((∀ k, r k ≠ some n) ∧ H3 n = remF gone H n ∧ lamn n = lam n) := fun n => by
    have hl : ∀ k, r k = some n → lamn n = lam2 k := fun k hk => by
      obtain ⟨hne, _⟩ := hr k n hk
      cases hh : hget H2 k with
      | none => exact absurd hh hne
      | some o =>
        simp only [lamn]
        cases hfi : H2.find? (fun q => r q.1 == some n) with
        | none =>
          have := List.find?_eq_none.1 hfi _ (hget_mem hh)
          simp [hk] at this
        | some q =>
          have := List.find?_some hfi
          simp at this
          simp only
          rw [hinj q.1 k n this hk]
    have hu : H3 = updF (H2.map fun q => ((r q.1).getD 0, some (renO r q.2))) (remF gone H) := by
      simp only [H3, updOf, updF_append, updF_rem]; rfl
    rcases upd_map r n H2 (remF gone H) with ⟨q, hq, h1, h2⟩ | ⟨h1, h2⟩
    · have hk := mem_hget hkeys hq
      obtain ⟨n', hn'⟩ := hrk q.1 (by rw [hk]; simp)
      rw [hn'] at h1
      simp at h1
      subst h1
      exact .inl ⟨q.1, q.2, hk, hn', by rw [hu]; exact h2, hl q.1 hn'⟩
    · refine .inr ⟨fun k hk => ?_, by rw [hu]; exact h2, ?_⟩
      · obtain ⟨hne, _⟩ := hr k n hk
        cases hh : hget H2 k with
        | none => exact hne hh
        | some o => exact h1 _ (hget_mem hh) (by rw [hk]; rfl)
      · simp only [lamn]
        cases hfi : H2.find? (fun q => r q.1 == some n) with
        | none => rfl
        | some q =>
          have h3 := List.find?_some hfi
          simp at h3
          exact absurd (by rw [h3]; rfl) (h1 q (List.mem_of_find?_eq_some hfi))
  have hren : Ren r lam2 (hget H2) lamn H3 := by
    refine ⟨fun k n o hk ho => ?_, fun k n hk hne => ?_⟩
    · rcases hH3 n with ⟨k', o', h1, h2, h3, _⟩ | ⟨h1, _⟩
      · have := hinj k k' n hk h2; subst this
        rw [ho] at h3; cases h3
        exact ⟨o', h1, rfl⟩
      · exact absurd hk (h1 k)
    · rcases hH3 n with ⟨k', o', h1, h2, h3, h4⟩ | ⟨h1, _⟩
      · have := hinj k k' n hk h2; subst this; exact h4
      · exact absurd hk (h1 k)
  -- a name that was ours, and still is
  have hold : ∀ n, p n → H3 n ≠ none → (∃ k, r k = some n ∧ lamn n = lam n ∧ H n ≠ none ∧ ((∃ c c0, hget H2 k = some (AObj.box c) ∧ H n = some (AObj.box c0)) ∨ (∃ m xs xs', hget H2 k = some (AObj.arr m xs') ∧ H n = some (AObj.arr m xs) ∧ xs.length = xs'.length))) ∨ (n ∉ gone ∧ H3 n = H n ∧ H n ≠ none ∧ lamn n = lam n) := fun n hp hne => by
    rcases hH3 n with ⟨k, o, h1, h2, h3, h4⟩ | ⟨h1, h2, h3⟩
    · obtain ⟨_, hc⟩ := hr k n h2
      rcases hc with ⟨i, a, o', e1, e2, e3⟩ | e1
      · obtain ⟨g1, g2, g3, g4, g5⟩ := hback i a o' n k e1 e2 e3
        exact .inl ⟨k, h2, h4.trans g1, g4, g5⟩
      · exact absurd hp (hf n (by omega) (by have := hlt1000 k (by rw [h1]; simp); omega))
    · right
      have hx : ∃ o, H3 n = some o := Option.ne_none_iff_exists'.1 hne
      obtain ⟨o, ho⟩ := hx
      have h4 := remF_ne (h2.symm.trans ho)
      exact ⟨h4.1, ho.trans h4.2.symm, by rw [h4.2]; simp, h3⟩
  have hunt : ∀ n b, H n ≠ none → n ∉ ps → lam n = some b → w'.heap[b]? = w.heap[b]? := fun n b hn hnp hb =>
    hblk b (h.hok.lt n b hn hb) fun m hm hmn hmb => hnp (h.hok.inj n m b hn hmn hb hmb ▸ hm)
  have hchg : Chg p w ok lam H w' okn lamn H3 := by
    refine ⟨fun b hb => hblk b (h.hok.oklt b hb) fun m hm hmn hmb => h.hok.dis m b hmn hmb hb, hon, fun n hp hne => ?_, fun n hp c' hc' => ?_, fun n hp m xs' hc' => ?_, fun n b cs Te fr m xs' hp hc' hb hh => ?_⟩
    · rcases hold n hp hne with ⟨_, _, e, _⟩ | ⟨_, _, _, e⟩ <;> exact e
    · rcases hold n hp (by rw [hc']; simp) with ⟨k, e1, _, _, ⟨c, c0, e2, e3⟩ | ⟨m, xs, xs', e2, e3, _⟩⟩ | ⟨_, e, _⟩
      · exact ⟨c0, e3⟩
      · obtain ⟨o0, g1, g2⟩ := hren.obj k n _ e1 hc'
        rw [e2] at g1; cases g1
        simp [renO] at g2
      · exact ⟨c', e.symm.trans hc'⟩
    · rcases hold n hp (by rw [hc']; simp) with ⟨k, e1, _, _, ⟨c, c0, e2, e3⟩ | ⟨m2, xs, xs2, e2, e3, e4⟩⟩ | ⟨_, e, _⟩
      · obtain ⟨o0, g1, g2⟩ := hren.obj k n _ e1 hc'
        rw [e2] at g1; cases g1
        simp [renO] at g2
      · obtain ⟨o0, g1, g2⟩ := hren.obj k n _ e1 hc'
        rw [e2] at g1; cases g1
        simp [renO] at g2
        obtain ⟨rfl, rfl⟩ := g2
        exact ⟨xs, e3, e4⟩
      · exact ⟨xs', e.symm.trans hc', rfl⟩
    · exact hfr.sized b cs Te fr hh
  -- who owns what, behind
  have hwho : ∀ n b, H3 n ≠ none → lamn n = some b → (∃ k, r k = some n ∧ hget H2 k ≠ none ∧ lam2 k = some b) ∨ (n ∉ gone ∧ H n ≠ none ∧ lam n = some b ∧ H3 n = H n) := fun n b hne hb => by
    rcases hH3 n with ⟨k, o, h1, h2, h3, h4⟩ | ⟨h1, h2, h3⟩
    · exact .inl ⟨k, h2, by rw [h1]; simp, h4 ▸ hb⟩
    · obtain ⟨o, ho⟩ := Option.ne_none_iff_exists'.1 hne
      have h4 := remF_ne (h2.symm.trans ho)
      exact .inr ⟨h4.1, by rw [h4.2]; simp, h3 ▸ hb, ho.trans h4.2.symm⟩
  have hmix : ∀ k n b, hget H2 k ≠ none → lam2 k = some b → n ∉ gone → H n ≠ none → lam n = some b → False := fun k n b h1 h2 h3 h4 h5 => by
    rcases hown2 k b h1 h2 with hc | hc
    · obtain ⟨m, hm, hmn, hmb⟩ := (hpas b).1 hc
      exact h3 (hgp n (h.hok.inj n m b h4 hmn h5 hmb ▸ hm))
    · have := h.hok.lt n b h4 h5; omega
  refine ⟨lamn, ⟨⟨⟨fun n n' b hn hn' hb hb' => ?_, fun n b hn hb => ?_, fun n b hn hb => ?_, honlt, fun n o ho => ?_⟩, fun n o ho => ?_, fun n hn => ?_, honU, fun n b hn hb => ?_, Nat.le_trans h.size hfr.size⟩, renV_rel hren hres, renV_good hrange res, ?_, fun x v hg hv => hchg.v hv hg⟩⟩
  · rcases hwho n b hn hb with ⟨k, e1, e2, e3⟩ | ⟨e1, e2, e3, _⟩
    · rcases hwho n' b hn' hb' with ⟨k', f1, f2, f3⟩ | ⟨f1, f2, f3, _⟩
      · have := hk2.inj k k' b e2 f2 e3 f3; subst this
        rw [e1] at f1; exact Option.some.inj f1
      · exact (hmix k n' b e2 e3 f1 f2 f3).elim
    · rcases hwho n' b hn' hb' with ⟨k', f1, f2, f3⟩ | ⟨f1, f2, f3, _⟩
      · exact (hmix k' n b f2 f3 e1 e2 e3).elim
      · exact h.hok.inj n n' b e2 f2 e3 f3
  · rcases hwho n b hn hb with ⟨k, e1, e2, e3⟩ | ⟨e1, e2, e3, _⟩
    · exact hk2.lt k b e2 e3
    · exact Nat.lt_of_lt_of_le (h.hok.lt n b e2 e3) hfr.size
  · rcases hwho n b hn hb with ⟨k, e1, e2, e3⟩ | ⟨e1, e2, e3, _⟩
    · exact hond2 k b e2 e3
    · exact hond n b e2 e1 e3
  · rcases hH3 n with ⟨k, o', h1, h2, h3, h4⟩ | ⟨h1, h2, h3⟩
    · rw [show H3 n = some o from ho] at h3
      cases h3
      exact renO_rel hren h2 (by rw [show H3 n = _ from ho]; simp) (hobj k o' h1)
    · have h4 := remF_ne (h2.symm.trans ho)
      exact ObjRel.chg hchg (hpn n (by rw [h4.2]; simp)) (by rw [show H3 n = _ from ho]; simp) (h.good n o h4.2) (fun b hb => hunt n b (by rw [h4.2]; simp) (fun hm => h4.1 (hgp n hm)) hb) (h.hok.obj n o h4.2)
  · rcases hH3 n with ⟨k, o', h1, h2, h3, h4⟩ | ⟨h1, h2, h3⟩
    · rw [show H3 n = some o from ho] at h3
      cases h3
      exact renO_good hrange o'
    · have h4 := remF_ne (h2.symm.trans ho)
      exact (h.good n o h4.2).mono fun _ h => .inl h
  · rcases hH3 n with ⟨k, o', h1, h2, h3, h4⟩ | ⟨h1, h2, h3⟩
    · exact hrange k n h2
    · obtain ⟨o, ho⟩ := Option.ne_none_iff_exists'.1 hn
      have h4 := remF_ne (h2.symm.trans ho)
      exact .inl (hpn n (by rw [h4.2]; simp))
  · rcases hwho n b hn hb with ⟨k, e1, e2, e3⟩ | ⟨e1, e2, e3, _⟩
    · rcases hown2 k b e2 e3 with hc | hc
      · obtain ⟨m, hm, hmn, hmb⟩ := (hpas b).1 hc
        exact h.ownb m b hmn hmb
      · exact .inr (Nat.le_trans h.size hc)
    · exact h.ownb n b e2 e3
  · exact ⟨hfr.os, hfr.tape, hfr.output, hfr.size, fun k hk hu => hblk k hk fun m hm hmn hmb => hu (h.ownb m k hmn hmb), hfr.sized⟩

theorem call_eff (h : Ctx okIn U w0 p w ok lam H) {tb : Nat} (hf : Fresh p tb) {f : FuncId} {args : List V} {vs : List Value} (hargs : Rel2 (VRel w ok lam H) args vs) (hv : callVC P H tb f args (eqK v0 u0)) :
    Calls P f ⟨vs⟩ w fun e w' => ∃ cv lam' ok', e = .returned cv ∧ Eff okIn U w0 p (pX p tb) w ok lam H v0 (updF u0 H) w' cv lam' ok' := by
  obtain ⟨sh, ms, as, ps, bs, outs, res, H2, hg, hc1, hok, hc2, hown, hK⟩ := hv
  obtain ⟨ws, hflat, hiff⟩ := flat_rel (sh := sh) hargs
  simp only [Bool.and_eq_true] at hc1 hc2
  obtain ⟨⟨hnd, hnm⟩, hpb⟩ := hc1
  obtain ⟨hfit, hsk⟩ := hc2
  have hpb' : ∀ n ∈ ps, n ∉ bs := fun n hn hb => by
    have := List.all_eq_true.1 hpb n hn
    simp at this
    exact this hb
  have har := gather_sound h.hok hflat hg
  have hlo := outsFit_len hfit
  have hokc : ∀ b, okB ok lam H bs b → b < w.heap.size := fun b hb => by
    rcases hb with hb | ⟨n, _, h1, h2⟩
    · exact h.hok.oklt b hb
    · exact h.hok.lt n b h1 h2
  have hk := h.hok.idx (ok' := okB ok lam H bs) hnd hokc (fun b hb => .inl hb) (fun k n b hk hn hb ho => by
    rcases ho with ho | ⟨m, hm, h1, h2⟩
    · exact h.hok.dis n b hn hb ho
    · exact hpb' n (List.mem_of_getElem? hk) (h.hok.inj n m b hn h1 hb h2 ▸ hm))
  have hren := ren_idx H lam ps
  have hcargs : ∀ (i : Nat) x v, (as.map (argV ps))[i]? = some x → ws[i]? = some v → VRel w (okB ok lam H bs) (fun k => (ps[k]?).bind lam) (hget (objs H (idx ps) 0 ps)) x v := fun i x v hx hvv => by
    rw [List.getElem?_map] at hx
    cases ha : as[i]? with
    | none => rw [ha] at hx; simp at hx
    | some a =>
      rw [ha] at hx
      simp at hx
      subst hx
      have hr := har.2 i a v ha hvv
      cases a with
      | dat x => exact .d hr
      | box n =>
        obtain ⟨⟨c, hc⟩, hnp, b, hb, rfl⟩ := hr
        simp only [argV]
        refine renC_rel hren (ok := okB ok lam H bs) (H := H) (lam := lam) (.ref ⟨_, rfl⟩ fun o ho => ⟨b, hb, rfl⟩)
      | own n off len =>
        obtain ⟨_, hnp, hvn⟩ := hr
        simp only [argV]
        cases hvn with | own g1 g2 =>
        exact renC_rel hren (ok := okB ok lam H bs) (H := H) (lam := lam) (.own g1 g2)
      | nils =>
        obtain rfl : v = _ := hr
        exact .nils
  have hpas : ∀ b, (∃ n, hget (objs H (idx ps) 0 ps) n ≠ none ∧ (fun k => (ps[k]?).bind lam) n = some b) → ∃ n ∈ ps, H n ≠ none ∧ lam n = some b := fun b => by
    rintro ⟨k, hk, hb⟩
    rw [hget_objs0] at hk
    have hb : (ps[k]?).bind lam = some b := hb
    cases hl : ps[k]? with
    | none => rw [hl] at hk; simp at hk
    | some n => rw [hl] at hk hb; exact ⟨n, List.mem_of_getElem? hl, by simpa using hk, by simpa using hb⟩
  have hga := (hiff w (okB ok lam H bs) (fun k => (ps[k]?).bind lam) (hget (objs H (idx ps) 0 ps)) (as.map (argV ps)) (by rw [List.length_map, har.1, hflat.1])).1 ⟨by rw [List.length_map]; exact har.1, hcargs⟩
  refine (hok.2 w vs _ _ hk hga.1 hga.2).mono ?_
  rintro e w' ⟨cv, lam2, ok2, rfl, hfr, hk2, hres, houts0, hsub, hown2⟩
  have houts := ((hiff w' ok2 lam2 (hget H2) outs (by rw [← hlo, har.1, hflat.1])).2 ⟨by rw [grpA_len (by rw [← hlo, har.1, hflat.1]), hargs.1], houts0⟩).2
  have hok2U : ∀ b, ok2 b → okIn b ∨ U b ∨ w0.heap.size ≤ b := fun b hb => by
    rcases hsub b hb with hb | hb | hb
    · rcases hb with hb | ⟨n, _, h1, h2⟩
      · exact h.okb b hb
      · exact .inr (h.ownb n b h1 h2)
    · obtain ⟨m, hm, hmn, hmb⟩ := hpas b hb
      exact .inr (h.ownb m b hmn hmb)
    · exact .inr (.inr (Nat.le_trans h.size hb))
  have hown_ok : ∀ k b, hget H2 k ≠ none → lam2 k = some b → ¬ ok b := fun k b hkn hb ho => by
    rcases hown2 k b hkn hb with hc | hc
    · obtain ⟨m, hm, hmn, hmb⟩ := hpas b hc
      exact h.hok.dis m b hmn hmb ho
    · have := h.hok.oklt b ho; omega
  -- where what is let go is all that was lent
  have letgo : ∀ gone, (∀ n ∈ ps, n ∈ gone) → (∀ n ∈ bs, n ∈ gone) → v0 = renV (back tb as outs H2) res → u0 = updOf tb as outs gone H2 →
      ∃ cv' lam' ok', Ending.returned cv = .returned cv' ∧ Eff okIn U w0 p (pX p tb) w ok lam H v0 (updF u0 H) w' cv' lam' ok' := by
    rintro gone hg1 hg2 rfl rfl
    obtain ⟨lam', he⟩ := after_call (okn := fun b => ok b ∨ ok2 b) h hf har hfit hown hnm hsk hg1 hfr hk2
      (hres.mono (VGood.all _) (fun _ _ => rfl) (fun b hb => .inr hb) (fun _ _ _ => rfl) (fun n _ c' hc' => ⟨c', hc'⟩) (fun n _ m xs' hx => ⟨xs', hx, rfl⟩) (fun n b cs T fr m xs' _ _ _ hh => ⟨cs, T, fr, hh, rfl⟩))
      (fun n o ho => ObjRel.chg (p := fun _ => True) (Chg.of_old (fun _ _ => rfl) hk2.oklt (fun b hb => .inr hb) (fun _ _ => .inr rfl) (fun _ _ _ => rfl)) trivial (by rw [ho]; simp) (by cases o with | box c => exact fun v _ => VGood.all v | arr => trivial) (fun _ _ => rfl) (hk2.obj n o ho))
      houts hown2 (fun b hb => .inl hb) (fun b hb => hb.elim (fun hb => Nat.lt_of_lt_of_le (h.hok.oklt b hb) hfr.size) (hk2.oklt b)) (fun b hb => hb.elim (h.okb b) (hok2U b))
      (fun n b hn hng hb ho => by
        rcases ho with ho | ho
        · exact h.hok.dis n b hn hb ho
        · rcases hsub b ho with ho | ho | ho
          · rcases ho with ho | ⟨m, hm, h1, h2⟩
            · exact h.hok.dis n b hn hb ho
            · exact hng (hg2 n (h.hok.inj n m b hn h1 hb h2 ▸ hm))
          · obtain ⟨m, hm, hmn, hmb⟩ := hpas b ho
            exact hng (hg1 n (h.hok.inj n m b hn hmn hb hmb ▸ hm))
          · have := h.hok.lt n b hn hb; omega)
      (fun k b hkn hb ho => ho.elim (hown_ok k b hkn hb) (hk2.dis k b hkn hb))
    exact ⟨cv, lam', _, rfl, he⟩
  rcases hK with ⟨hbs | ⟨hfl, hfh⟩, rfl, rfl⟩ | ⟨rfl, rfl⟩
  · subst hbs
    exact letgo ps (fun _ h => h) (by simp) rfl rfl
  · obtain ⟨lam', he⟩ := after_call (okn := ok) h hf har hfit hown hnm hsk (fun _ h => h) hfr hk2 (hfl.rel hres) (fun n o ho => (hfh _ (hget_mem ho)).rel (hk2.obj n o ho)) houts hown2 (fun _ h => h)
      (fun b hb => Nat.lt_of_lt_of_le (h.hok.oklt b hb) hfr.size) h.okb (fun n b hn _ hb => h.hok.dis n b hn hb) hown_ok
    exact ⟨cv, lam', _, rfl, he⟩
  · exact letgo (bs ++ ps) (fun n hn => List.mem_append_right _ hn) (fun n hn => List.mem_append_left _ hn) rfl rfl

end
end Go.Rx

namespace Go.Rx
open Go Go.RowKit

section
variable {P : Program} {T : Tys} {okIn U : Nat → Prop} {w0 : World} {p : Nat → Prop} {w w' : World} {ok ok' : Nat → Prop} {lam lam' : Nat → Option Nat} {H : Heap} {v0 : V} {u0 : Upd} {cv : Value} {a : Act} {Q : Exit → Act → World → Prop}

/-- What stands behind an operation. -/
def Next1 (okIn U : Nat → Prop) (w0 : World) (p : Nat → Prop) (tb : Nat) (w : World) (ok : Nat → Prop) (lam : Nat → Option Nat) (H : Heap) (a : Act) (dst : Option Nat) (v0 : V) (u0 : Upd) : Act → World → Prop := fun a' w' =>
  ∃ cv lam' ok', a' = a.put dst cv ∧ Eff okIn U w0 p (pX p tb) w ok lam H v0 (updF u0 H) w' cv lam' ok'

theorem wp_value {o : Oper} {tb : Nat} {s : Sem Value} (he : execOp a.eval o = (do pure (.value (← s)))) (hd : Does P okIn U w0 p tb w ok lam H v0 u0 s) :
    o.wp P a w (Next1 okIn U w0 p tb w ok lam H a o.dst v0 u0) Q := by
  obtain ⟨cv, w', lam', ok', hr, hE⟩ := hd
  unfold Oper.wp
  rw [he]
  simp only [Sem.run_bind, hr, Result.andThen_ok, Sem.run_pure, Oper.upon]
  exact ⟨cv, lam', ok', rfl, hE⟩

theorem Quiet.does (h : Ctx okIn U w0 p w ok lam H) {tb : Nat} {g : Prop} (hg : g) {s : Sem Value} (hq : Quiet P w ok lam H p v0 u0 g s) : Does P okIn U w0 p tb w ok lam H v0 u0 s := by
  obtain ⟨cv, hr, rfl, hv, hgd⟩ := hq
  exact ⟨cv, w, lam, ok, hr, Eff.quiet h (fun _ h => .inl h) hv (hgd hg)⟩

theorem onSome_inv {α : Type} {o : Option α} {F : α → Prop} (h : onSome o F) : ∃ x, o = some x ∧ F x := by
  cases o with
  | none => exact h.elim
  | some x => exact ⟨x, rfl, h⟩

theorem onBox_inv {o : Option AObj} {F : List V → Prop} (h : onBox o F) : ∃ c, o = some (.box c) ∧ F c := by
  cases o with
  | none => exact h.elim
  | some x => cases x with
    | box c => exact ⟨c, rfl, h⟩
    | arr m xs => exact h.elim

theorem onArr_inv {o : Option AObj} {F : Nat → List (List D) → Prop} (h : onArr o F) : ∃ m xs, o = some (.arr m xs) ∧ F m xs := by
  cases o with
  | none => exact h.elim
  | some x => cases x with
    | box c => exact h.elim
    | arr m xs => exact ⟨m, xs, rfl, h⟩

theorem cells_good {x : V} {cs : List V} (h : x.cells = some cs) (hg : VGood p x) : ∀ v ∈ cs, VGood p v := by
  intro v hv
  cases x <;> simp only [V.cells] at h <;> first
    | (simp at h; done)
    | (simp at h; subst h; simp at hv; subst hv; exact hg)
    | (simp at h; subst h; cases hg with | agg hg => exact hg v hv)
    | skip
  rename_i y
  cases y <;> simp only at h <;> first
    | (simp at h; done)
    | (simp at h; subst h; simp at hv; obtain ⟨z, _, rfl⟩ := hv; exact .d _)
    | (simp at h; subst h; simp at hv; subst hv; exact hg)

theorem isU8_und (hT : TyOK P T) {e : Nat} (h : isU8 (T e) = true) : P.underlying e = some (.int .u8) := by
  unfold isU8 at h
  split at h
  · rename_i a b z hTe
    obtain ⟨info, d, zz, ht⟩ := hT e _ hTe
    have := kindOK_int ht.kind
    subst this
    exact ht.und
  · simp at h

theorem und_of (hT : TyOK P T) {t : Nat} {i : TI} (h : T t = some i) : ∃ d, P.underlying t = some d ∧ kindOK d i.kind := by
  obtain ⟨info, d, z, ht⟩ := hT t i h
  exact ⟨d, ht.und, ht.kind⟩

theorem conv_does (hT : TyOK P T) (h : Ctx okIn U w0 p w ok lam H) {tb : Nat} (hf : Fresh p tb) {src dst : Nat} {x : V} {xv : Value} (hx : VRel w ok lam H x xv) (hv : convVC H tb (convK (T src) (T dst) T) x (eqK v0 u0)) :
    Does P okIn U w0 p tb w ok lam H v0 u0 (convert src dst xv) := by
  cases hs : T src with
  | none => rw [hs] at hv; simp [convK, convVC] at hv
  | some si =>
    cases hd : T dst with
    | none => rw [hs, hd] at hv; simp [convK, convVC] at hv
    | some di =>
      obtain ⟨ds, us, ks⟩ := und_of hT hs
      obtain ⟨dd, ud, kd⟩ := und_of hT hd
      rw [hs, hd] at hv
      obtain ⟨s1, s2, sk, s4⟩ := si
      obtain ⟨d1, d2, dk, d4⟩ := di
      simp only at ks kd
      cases sk with
      | int k0 =>
        cases dk with
        | int k =>
          simp only [convK] at hv
          obtain rfl := kindOK_int ks
          obtain rfl := kindOK_int kd
          cases x with
          | d y => cases y with
            | int k1 n =>
              simp only [convVC] at hv
              obtain ⟨rfl, rfl⟩ := hv
              cases hx.inv_d
              exact Quiet.does (g := True) h trivial ⟨.int k (k.wrap n), by simp [convert, run_underlying us, run_underlying ud, Conv.intToInt], rfl, .d (.int _ _), fun _ => .d _⟩
            | _ => simp [convVC] at hv
          | _ => simp [convVC] at hv
        | _ => simp [convK, convVC] at hv
      | str =>
        obtain rfl := kindOK_str ks
        cases dk with
        | str =>
          obtain rfl := kindOK_str kd
          simp only [convK] at hv
          cases x with
          | d y => cases y with
            | str s =>
              simp only [convVC] at hv
              obtain ⟨rfl, rfl⟩ := hv
              cases hx.inv_d with | str _ hm =>
              exact Quiet.does (g := True) h trivial ⟨.string ⟨⟨s⟩⟩, by simp [convert, run_underlying us, run_underlying ud], rfl, .d (.str _ hm), fun _ => .d _⟩
            | _ => simp [convVC] at hv
          | _ => simp [convVC] at hv
        | slice e =>
          obtain rfl := kindOK_slice kd
          simp only [convK] at hv
          cases hu8 : isU8 (T e) with
          | false => rw [hu8] at hv; simp [convVC] at hv
          | true =>
            rw [hu8] at hv
            simp only [cond_true] at hv
            cases x with
            | d y => cases y with
              | str s =>
                simp only [convVC] at hv
                obtain ⟨hm, rfl, rfl⟩ := hv
                cases hx.inv_d with | str _ _ =>
                exact strBytes_eff h hf hm us ud (isU8_und hT hu8)
              | _ => simp [convVC] at hv
            | _ => simp [convVC] at hv
        | _ => simp [convK, convVC] at hv
      | slice e =>
        obtain rfl := kindOK_slice ks
        cases dk with
        | str =>
          obtain rfl := kindOK_str kd
          simp only [convK] at hv
          cases hu8 : isU8 (T e) with
          | false => rw [hu8] at hv; simp [convVC] at hv
          | true =>
            rw [hu8] at hv
            simp only [cond_true] at hv
            have hv : onSome (slOf (toD H x)) fun xs => (xs.map byteOf).map byteCell = xs ∧ eqK v0 u0 (.d (.str (xs.map byteOf))) [] := by
              cases x with
              | d y => cases y <;> exact hv
              | _ => exact hv
            obtain ⟨xs, hxs, he, rfl, rfl⟩ := onSome_inv hv
            cases htd : toD H x with
            | none => rw [htd] at hxs; simp [slOf] at hxs
            | some q =>
              obtain ⟨dd, ls⟩ := q
              rw [htd] at hxs
              cases dd with
              | sl ys =>
                simp [slOf] at hxs
                subst hxs
                have hd := toD_sound h.hok hx htd
                rw [← he] at hd
                obtain ⟨hr, hm⟩ := bytes_sound us (isU8_und hT hu8) ud hd
                exact Quiet.does (g := True) h trivial ⟨_, hr, rfl, .d (.str _ hm), fun _ => .d _⟩
              | _ => simp [slOf] at hxs
        | _ => simp [convK, convVC] at hv
      | _ => simp [convK, convVC] at hv

theorem rel_args {ρ : Operand → V} (henv : ∀ x, VRel w ok lam H (ρ x) (a.eval x)) (xs : Array Operand) : Rel2 (VRel w ok lam H) (xs.toList.map ρ) (xs.map a.eval).toList := by
  refine ⟨by simp, fun i x y hx hy => ?_⟩
  rw [List.getElem?_map] at hx
  simp only [Array.toList_map, List.getElem?_map] at hy
  cases hxi : xs.toList[i]? with
  | none => rw [hxi] at hx; simp at hx
  | some z => rw [hxi] at hx hy; simp at hx hy; subst hx; subst hy; exact henv z

theorem rel_parts {ρ : Operand → V} (henv : ∀ x, VRel w ok lam H (ρ x) (a.eval x)) (xs : Array (Nat × Operand)) :
    Rel2 (fun a b => a.1 = b.1 ∧ VRel w ok lam H a.2 b.2) (xs.toList.map fun q => (q.1, ρ q.2)) (xs.map fun (i, x) => (i, a.eval x)).toList := by
  refine ⟨by simp, fun i x y hx hy => ?_⟩
  rw [List.getElem?_map] at hx
  simp only [Array.toList_map, List.getElem?_map] at hy
  cases hxi : xs.toList[i]? with
  | none => rw [hxi] at hx; simp at hx
  | some z => rw [hxi] at hx hy; simp at hx hy; subst hx; subst hy; exact ⟨rfl, henv z.2⟩

theorem orel {ρ : Operand → V} (henv : ∀ x, VRel w ok lam H (ρ x) (a.eval x)) (o : Option Operand) : ORel w ok lam H (o.map ρ) (o.map a.eval) := by
  cases o with
  | none => trivial
  | some x => exact henv x

theorem call_wp (h : Ctx okIn U w0 p w ok lam H) {o : Oper} {tb : Nat} (hf : Fresh p tb) {f : FuncId} {args : List V} {vs : List Value} (hargs : Rel2 (VRel w ok lam H) args vs)
    (he : (execOp a.eval o).run P w = .ok (.enter f ⟨vs⟩) w) (hv : callVC P H tb f args (eqK v0 u0)) : o.wp P a w (Next1 okIn U w0 p tb w ok lam H a o.dst v0 u0) Q := by
  unfold Oper.wp
  rw [he, Oper.upon_enter]
  refine (call_eff h hf hargs hv).mono ?_
  rintro e w' ⟨cv, lam', ok', rfl, hE⟩
  exact ⟨cv, lam', ok', rfl, hE⟩

theorem callFunc_run {f : FuncId} {vs : Array Value} (h : Known P f) : (callFunc f vs).run P w = .ok (.enter f vs) w := by
  obtain ⟨fn, h1, h2, h3⟩ := h
  unfold callFunc
  simp only [Sem.run_bind, run_program, Result.andThen_ok, h1, h2, Bool.false_eq_true, if_false, h3, Sem.run_pure]

theorem callVC_known {tb : Nat} {f : FuncId} {args : List V} {K : OK} (h : callVC P H tb f args K) : Known P f := by
  obtain ⟨sh, ms, as, ps, bs, outs, res, H2, _, _, hok, _⟩ := h
  exact hok.1

set_option maxHeartbeats 1000000 in
theorem op_sound (hT : TyOK P T) (h : Ctx okIn U w0 p w ok lam H) {i : Nat} (hf : Fresh p (1000 * (i + 1))) {o : Oper} {ρ : Operand → V}
    (henv : ∀ x, VRel w ok lam H (ρ x) (a.eval x)) (hgood : ∀ x, VGood p (ρ x)) (hop : opVC T P i o ρ H (eqK v0 u0)) :
    o.wp P a w (Next1 okIn U w0 p (1000 * (i + 1)) w ok lam H a o.dst v0 u0) Q := by
  have move : ∀ (x : Operand) (he : execOp a.eval o = pure (.value (a.eval x))), moveVC T (1000 * (i + 1)) o.type (ρ x) (eqK v0 u0) → o.wp P a w (Next1 okIn U w0 p (1000 * (i + 1)) w ok lam H a o.dst v0 u0) Q := by
    intro x he hm
    have hx := henv x
    have plain : v0 = ρ x ∧ u0 = [] → o.wp P a w (Next1 okIn U w0 p (1000 * (i + 1)) w ok lam H a o.dst v0 u0) Q := by
      rintro ⟨rfl, rfl⟩
      exact wp_value (s := pure (a.eval x)) (by rw [he]; rfl) (Quiet.does h (g := VGood p (ρ x)) (hgood x) ⟨_, rfl, rfl, hx, fun hg => hg⟩)
    cases hρ : ρ x with
    | nils =>
      rw [hρ] at hm
      simp only [moveVC] at hm
      cases he2 : elemT T o.type with
      | none => rw [he2] at hm; simp only [moveNil] at hm; exact plain ⟨by rw [hρ]; exact hm.1.symm, hm.2.symm⟩
      | some e =>
        rw [he2] at hm
        simp only [moveNil] at hm
        obtain ⟨rfl, rfl⟩ := hm
        rw [hρ] at hx
        have hxe : a.eval x = .slice none 0 0 := by generalize a.eval x = y at hx; cases hx; rfl
        obtain ⟨lam', ok', hE⟩ := moveNil_eff (m := sizeOfT T e) h hf
        exact wp_value (s := pure (a.eval x)) (by rw [he]; rfl) ⟨_, w, lam', ok', rfl, by rw [hxe]; exact hE⟩
    | _ => rw [hρ] at hm; simp only [moveVC] at hm; exact plain ⟨by rw [hρ]; exact hm.1.symm, hm.2.symm⟩
  obtain ⟨dst, op, ty, pos, after, guard⟩ := o
  cases op with
  | move x =>
    obtain ⟨rfl, rfl⟩ := hop
    exact wp_value (s := pure (a.eval x)) rfl (Quiet.does h (g := VGood p (ρ x)) (hgood x) ⟨_, rfl, rfl, henv x, fun hg => hg⟩)
  | assign x => exact move x rfl hop
  | pick c x y =>
    refine wp_value (s := do pure (if ← asBool (a.eval c) then a.eval x else a.eval y)) ?_ (Quiet.does h ⟨hgood x, hgood y⟩ (pick_sound (henv c) (henv x) (henv y) hop))
    simp [execOp]
  | alloc e =>
    obtain ⟨ti, hte, hz, hs, rfl, rfl⟩ := onSome_inv hop
    obtain ⟨info, d, z, ht⟩ := hT e ti hte
    obtain ⟨lam', ok', hE⟩ := newBox_eff (tb := 1000 * (i + 1)) (zs := ti.zero) (Te := e) h hf (zeroV_rel ht.zrel) (zeroV_good _) (by rw [zeroV_length]; omega)
    refine wp_value (s := Instr.alloc e true (.tuple #[])) rfl ⟨_, _, lam', ok', ?_, hE⟩
    simp [Instr.alloc, ht.run_zero, newVar, newRow]
  | box e x =>
    obtain ⟨ti, hte, hb⟩ := onSome_inv hop
    obtain ⟨vs, hc, hl, hs, rfl, rfl⟩ := onSome_inv hb
    obtain ⟨lam', ok', hE⟩ := newBox_eff (tb := 1000 * (i + 1)) (zs := ti.zero) (Te := e) h hf (V.cells_sound (henv x) hc) (cells_good hc (hgood x)) (by omega)
    refine wp_value (s := Instr.box e (a.eval x)) rfl ⟨_, _, lam', ok', ?_, hE⟩
    simp [Instr.box, newVar, newRow]
  | build t parts =>
    obtain ⟨⟨fs, n, zs⟩, hst, hzn, hall, hb⟩ := onSome_inv hop
    obtain ⟨cs, hcs, rfl, rfl⟩ := onSome_inv hb
    exact wp_value (s := Instr.build t (parts.map fun (i, x) => (i, a.eval x))) rfl (Quiet.does h (fun q hq => by
      obtain ⟨y, _, rfl⟩ := List.mem_map.1 hq; exact hgood y.2) (build_sound hT hst hzn hall (rel_parts henv parts) hcs ⟨rfl, rfl⟩))
  | buildSlice t len parts =>
    obtain ⟨ti, hti, hl⟩ := onSome_inv hop
    exact wp_value (s := Instr.buildSlice t len (parts.map fun (i, x) => (i, a.eval x))) rfl (lit_eff hT h hf hti (rel_parts henv parts) hl)
  | load t x =>
    obtain ⟨cv, hr, rfl, hv, hg⟩ := load_sound (q := p) hT h.hok (henv x) hop
    exact wp_value (s := Instr.loadAt t (a.eval x)) rfl (Quiet.does (g := True) h trivial ⟨cv, hr, rfl, hv, fun _ => hg h.good⟩)
  | store t x y =>
    obtain ⟨ti, hTt, hs⟩ := onSome_inv hop
    obtain ⟨vs, hc, hl, hsm, hone, hst⟩ := onSome_inv hs
    have hx := henv x
    have key : ∀ w', (Instr.storeAt t (a.eval x) (a.eval y)).run P w = .ok () w' → ∀ lam' ok', Eff okIn U w0 p (pX p (1000 * (i + 1))) w ok lam H v0 (updF u0 H) w' undef lam' ok' →
        Oper.wp P ⟨dst, .store t x y, ty, pos, after, guard⟩ a w (Next1 okIn U w0 p (1000 * (i + 1)) w ok lam H a dst v0 u0) Q := by
      intro w' hr lam' ok' hE
      unfold Oper.wp
      have : (execOp a.eval ⟨dst, .store t x y, ty, pos, after, guard⟩).run P w = .ok .skip w' := by simp [execOp, hr]
      rw [this]
      exact ⟨undef, lam', ok', rfl, hE⟩
    cases hρ : ρ x with
    | ref n off =>
      rw [hρ] at hst hx
      obtain ⟨cells, hn, hle, rfl, rfl⟩ := onBox_inv hst
      obtain ⟨w', lam', ok', hr, hE⟩ := storeRef_eff (P := P) hT h hf hTt (henv y) hc (cells_good hc (hgood y)) hl hsm hone hx hn hle
      exact key w' hr lam' ok' hE
    | el n i' j =>
      rw [hρ] at hst hx
      obtain ⟨m, xs, hn, hst⟩ := onArr_inv hst
      obtain ⟨⟨ds, ls⟩, hcd, hi, hj, hls, rfl, rfl⟩ := onSome_inv hst
      obtain ⟨w', lam', ok', hr, hE⟩ := storeEl_eff (P := P) (tb := 1000 * (i + 1)) hT h hTt (henv y) hc hl hone hx hn hcd hi hj (by simpa using hls)
      exact key w' hr lam' ok' hE
    | _ => rw [hρ] at hst; simp [storeTo] at hst
  | nilCheck x =>
    obtain ⟨rfl, rfl, hcase⟩ := nil_sound (henv x) hop
    refine wp_value (s := pure (a.eval x)) ?_ (Quiet.does h (g := VGood p (ρ x)) (hgood x) ⟨_, rfl, rfl, henv x, fun hg => hg⟩)
    rcases hcase with ⟨A, hA⟩ | ⟨f, y, z, hA⟩ <;> simp [execOp, hA]
  | binOp op t x y u =>
    exact wp_value (s := binRun op t x y (a.eval x) (a.eval y)) rfl (Quiet.does (g := True) h trivial (bin_sound hT (henv x) (henv y) hop))
  | unOp op t x => exact wp_value (s := Op.unary op (a.eval x)) rfl (Quiet.does (g := True) h trivial (un_sound (henv x) hop))
  | convert s d x => exact wp_value (s := convert s d (a.eval x)) rfl (conv_does hT h hf (henv x) hop)
  | makeFunc fn first captured =>
    cases fn with
    | func f =>
      obtain ⟨h0, rfl, rfl⟩ := hop
      have hfi : first = #[] := by cases first; simp at h0; simp [h0]
      subst hfi
      have hr := rel_args henv captured
      have hcl := VRel.clo (f := f) hr.1 hr.2
      have hev : (⟨(captured.map a.eval).toList⟩ : Array Value) = captured.map a.eval := rfl
      rw [hev] at hcl
      exact wp_value (s := Instr.makeFunc (.func f) (#[].map a.eval) (captured.map a.eval)) rfl (Quiet.does (g := True) h trivial ⟨_, by simp [Instr.makeFunc], rfl, hcl, fun _ => .clo fun v hv => by obtain ⟨y, _, rfl⟩ := List.mem_map.1 hv; exact hgood y⟩)
    | _ => exact hop.elim
  | makeSlice t l c =>
    obtain ⟨ti, hti, hm⟩ := onSome_inv hop
    exact wp_value (s := Instr.makeSlice t (a.eval l) (a.eval c)) rfl (make_eff hT h hf hti (henv l) (henv c) hm)
  | slice t x lo hi mx =>
    exact wp_value (s := Instr.sliceAt t (a.eval x) (lo.map a.eval) (hi.map a.eval) (mx.map a.eval)) rfl (Quiet.does h (hgood x) (slice_sound hT (henv x) (orel henv lo) (orel henv hi) (orel henv mx) hop))
  | fieldAddr t x f =>
    obtain ⟨⟨off, ft⟩, hfo, hpos, hfa⟩ := onSome_inv hop
    exact wp_value (s := Instr.fieldAt t (a.eval x) f) rfl (Quiet.does h (hgood x) (fa_sound hT hfo hpos (henv x) hfa))
  | field t x f =>
    obtain ⟨⟨off, ft⟩, hfo, hfv⟩ := onSome_inv hop
    exact wp_value (s := Instr.field t (a.eval x) f) rfl (Quiet.does h (hgood x) (field_sound hT hfo (henv x) hfv))
  | indexAddr t x y => exact wp_value (s := Instr.indexAt t (a.eval x) (a.eval y)) rfl (Quiet.does h (hgood x) (index_sound hT (henv x) (henv y) hop))
  | index t x y =>
    obtain ⟨hs, hi⟩ := hop
    exact wp_value (s := Instr.index t (a.eval x) (a.eval y)) rfl (Quiet.does (g := True) h trivial (strIx_sound hT hs (henv x) (henv y) hi))
  | extract x n => exact wp_value (s := Instr.extract (a.eval x) n) rfl (Quiet.does h (hgood x) (ext_sound (henv x) hop))
  | call c =>
    obtain ⟨callee, args, argTypes⟩ := c
    have hra := rel_args henv args
    have direct : ∀ (x : Operand) (f : FuncId) (cs : List V) (cvs : List Value), a.eval x = .func (.func f) #[] ⟨cvs⟩ → Rel2 (VRel w ok lam H) cs cvs → callVC P H (1000 * (i + 1)) f (args.toList.map ρ ++ cs) (eqK v0 u0) →
        Oper.wp P ⟨dst, .call ⟨.value x, args, argTypes⟩, ty, pos, after, guard⟩ a w (Next1 okIn U w0 p (1000 * (i + 1)) w ok lam H a dst v0 u0) Q := by
      intro x f cs cvs hx hcs hv
      refine call_wp (vs := (args.map a.eval).toList ++ cvs) h hf (hra.append hcs) ?_ hv
      simp only [execOp, resolve, hx, Deferred.ofValue, Sem.run_bind, Sem.run_pure, Result.andThen_ok, invoke]
      rw [callFunc_run (callVC_known hv)]
      congr 2
      apply Array.ext'
      simp
    cases callee with
    | builtin b =>
      have hop : builtinVC T H (1000 * (i + 1)) b argTypes.toList (args.toList.map ρ) (eqK v0 u0) := hop
      have he : ∃ cs, execOp a.eval ⟨dst, .call ⟨.builtin b, args, argTypes⟩, ty, pos, after, guard⟩ = builtin b argTypes ty cs (args.map a.eval) := by
        simp only [execOp, resolve, pure_bind, invoke]
        exact ⟨_, rfl⟩
      obtain ⟨cs, he⟩ := he
      have hal : ∀ l, args.toList.map ρ = l → l.length = (args.map a.eval).size := fun l hl => by rw [← hl]; simp
      generalize hm : args.toList.map ρ = l at hop hra
      have hsz := hal l hm
      obtain ⟨vs, hvs⟩ : ∃ vs, args.map a.eval = ⟨vs⟩ := ⟨_, rfl⟩
      rw [hvs] at he hra
      simp only at hra
      cases l with
      | nil => simp [builtinVC] at hop
      | cons x l =>
        obtain ⟨xv, rest, rfl, hx, hrest⟩ := hra.uncons
        cases l with
        | nil =>
          obtain rfl := hrest.nil_left
          cases b <;> simp only [builtinVC] at hop
          case len =>
            cases hat : argTypes.toList.head? with
            | none => rw [hat] at hop; simp at hop; cases x <;> first | (simp [lenVC, isStr, isSl, Req] at hop; done) | (rename_i y; cases y <;> simp [lenVC, isStr, isSl, Req] at hop)
            | some t =>
              rw [hat] at hop
              simp only [Option.bind_some] at hop
              have ht0 : argTypes[0]? = some t := by rw [← Array.getElem?_toList, ← List.head?_eq_getElem?]; exact hat
              exact wp_value (s := Builtin.len_ argTypes ty #[xv]) (by rw [he]; rfl) (Quiet.does (g := True) h trivial (len_sound hT ht0 hx hop))
          case clear =>
            obtain ⟨ti, hti, hop⟩ := onSome_inv hop
            cases hat : argTypes.toList.head? with
            | none => rw [hat] at hti; simp at hti
            | some t =>
              rw [hat] at hti
              simp only [Option.bind_some] at hti
              have ht0 : argTypes[0]? = some t := by rw [← Array.getElem?_toList, ← List.head?_eq_getElem?]; exact hat
              exact wp_value (s := Builtin.clear_ argTypes ty #[xv]) (by rw [he]; rfl) (clear_does hT h ht0 hti hx hop)
        | cons y l =>
          obtain ⟨yv, rest, rfl, hy, hrest⟩ := hrest.uncons
          cases l with
          | cons z l => simp [builtinVC] at hop
          | nil =>
            obtain rfl := hrest.nil_left
            cases b <;> simp only [builtinVC] at hop
            case append =>
              cases hint : isIntT T argTypes.toList[1]? with
              | true =>
                simp only [appendVC] at hop
                rw [hint] at hop
                obtain ⟨e, hbe, hop2⟩ := onSome_inv (hop : onSome _ _)
                obtain ⟨ti, hti, hop3⟩ := onSome_inv hop2
                obtain ⟨_ | ⟨t1, ts⟩⟩ := argTypes
                · simp at hbe
                · simp at hbe
                  cases ts with
                  | nil => simp [isIntT] at hint
                  | cons t2 ts =>
                    obtain ⟨it, hTt, hkt⟩ := elemT_some hbe
                    obtain ⟨info, d, z, ht⟩ := hT t1 it hTt
                    obtain rfl : d = .slice e := kindOK_slice (hkt ▸ ht.kind)
                    obtain ⟨infoe, de, ze, hte⟩ := hT e ti hti
                    obtain ⟨cv, w', lam', ok', hr, hE⟩ := appZ_eff (rty := ty) (tx := t2) hT h hf ht hte hx hy (by simpa using hint) hop3
                    refine wp_value (s := Builtin.append_ ⟨t1 :: t2 :: ts⟩ ty #[xv, yv]) (by rw [he]; rfl) ⟨cv, w', lam', ok', ?_, hE⟩
                    rw [← hr]
                    unfold Builtin.append_
                    rfl
              | false =>
              simp only [appendVC] at hop
              rw [hint] at hop
              obtain ⟨hst, hop1⟩ := (hop : Req _ _)
              obtain ⟨e, hbe, hop2⟩ := onSome_inv hop1
              obtain ⟨ti, hti, hop3⟩ := onSome_inv hop2
              obtain ⟨ys, hys, hop4⟩ := onSome_inv hop3
              obtain ⟨_ | ⟨t1, ts⟩⟩ := argTypes
              · simp at hbe
              · simp at hbe
                cases ts with
                | nil => simp [srcTy] at hst
                | cons t2 ts =>
                  obtain ⟨it, hTt, hkt⟩ := elemT_some hbe
                  obtain ⟨info, d, z, ht⟩ := hT t1 it hTt
                  obtain rfl : d = .slice e := kindOK_slice (hkt ▸ ht.kind)
                  obtain ⟨infoe, de, ze, hte⟩ := hT e ti hti
                  have hd := appTo_eff (rty := ty) (tx := t2) hT h hf ht hte hx hy hys (by simpa using hst) hop4
                  refine wp_value (s := Builtin.append_ ⟨t1 :: t2 :: ts⟩ ty #[xv, yv]) (by rw [he]; rfl) ?_
                  obtain ⟨cv, w', lam', ok', hr, hE⟩ := hd
                  refine ⟨cv, w', lam', ok', ?_, hE⟩
                  rw [← hr]
                  unfold Builtin.append_
                  rfl
            case min =>
              obtain ⟨v, hv, rfl, rfl⟩ := onSome_inv hop
              exact wp_value (s := Builtin.min_ argTypes ty #[xv, yv]) (by rw [he]; rfl) (Quiet.does (g := True) h trivial (min_sound hx hy hv ⟨rfl, rfl⟩))
            case max =>
              obtain ⟨v, hv, rfl, rfl⟩ := onSome_inv hop
              exact wp_value (s := Builtin.max_ argTypes ty #[xv, yv]) (by rw [he]; rfl) (Quiet.does (g := True) h trivial (max_sound hx hy hv ⟨rfl, rfl⟩))
    | value x =>
      have tmp : calleeVC P H (1000 * (i + 1)) (args.toList.map ρ) (ρ x) (eqK v0 u0) → Oper.wp P ⟨dst, .call ⟨.value x, args, argTypes⟩, ty, pos, after, guard⟩ a w (Next1 okIn U w0 p (1000 * (i + 1)) w ok lam H a dst v0 u0) Q := by
        intro hv
        have hx := henv x
        generalize hρ : ρ x = y at hv hx
        cases y with
        | d z =>
          cases z with
          | clo f cs =>
            generalize hev : a.eval x = av at hx
            cases hx.inv_d with | clo _ _ vs hl hd =>
            exact direct x f _ vs hev (Rel2.dV ⟨hl, hd⟩) hv
          | _ => simp [calleeVC] at hv
        | clo f cs =>
          generalize hev : a.eval x = av at hx
          cases hx with | clo hl hd =>
          exact direct x f _ _ hev ⟨hl, hd⟩ hv.2
        | _ => simp [calleeVC] at hv
      cases x with
      | func f =>
        have hop' : callVC P H (1000 * (i + 1)) f (args.toList.map ρ) (eqK v0 u0) := hop
        exact direct (.func f) f [] [] rfl (Rel2.nil _) (by rw [List.append_nil]; exact hop')
      | tmp t => exact tmp hop
      | const v => exact tmp hop
      | global g => exact tmp hop
    | invoke r m => exact hop.elim
  | _ => exact hop.elim

end
end Go.Rx

namespace Go.Rx
open Go Go.RowKit

/-! ### what an operation looks at -/

section
variable {h h' : Heap}

theorem cD_loc {v : V} (hh : ∀ n ∈ refC v, h n = h' n) : cD h v = cD h' v := by
  cases v <;> first
    | rfl
    | (simp only [cD]; rw [hh _ (by simp [refC])])

theorem cDs_loc : ∀ {vs : List V}, (∀ v ∈ vs, ∀ n ∈ refC v, h n = h' n) → cDs h vs = cDs h' vs
  | [], _ => rfl
  | v :: vs, hh => by
    simp only [cDs]
    rw [cD_loc (hh v (by simp)), cDs_loc fun x hx => hh x (by simp [hx])]

theorem refO_loc {n : Nat} (hh : h n = h' n) : refO h n = refO h' n := by simp only [refO, hh]

/-- Names a value bears, and what its boxes bear. -/
def Reach (h : Heap) (l : List Nat) (n : Nat) : Prop := ∃ k ∈ l, n = k ∨ n ∈ refO h k

theorem toP_loc {v : V} (hh : ∀ n, Reach h (refC v) n → h n = h' n) : toP h v = toP h' v := by
  cases v with
  | ref n off =>
    have hn : h n = h' n := hh n ⟨n, by simp [refC], .inl rfl⟩
    simp only [toP]
    rw [← hn]
    cases hb : h n with
    | none => rfl
    | some o =>
      cases o with
      | arr => rfl
      | box cells =>
        simp only
        rw [cDs_loc (h := h) (h' := h')]
        intro v hv k hk
        exact hh k ⟨n, by simp [refC], .inr (by simp only [refO, hb, List.mem_cons, List.mem_flatMap]; exact .inr ⟨v, hv, hk⟩)⟩
  | _ => simp only [toP]; apply cD_loc; intro n hn; exact hh n ⟨n, hn, .inl rfl⟩

theorem toPs_loc : ∀ {vs : List V}, (∀ n, Reach h (vs.flatMap refC) n → h n = h' n) → toPs h vs = toPs h' vs
  | [], _ => rfl
  | v :: vs, hh => by
    simp only [toPs]
    rw [toP_loc fun n ⟨k, hk, hn⟩ => hh n ⟨k, by simp [hk], hn⟩, toPs_loc fun n ⟨k, hk, hn⟩ => hh n ⟨k, by rw [List.flatMap_cons]; exact List.mem_append.2 (.inr hk), hn⟩]

theorem toD_loc {v : V} (hh : ∀ n, Reach h (refV v) n → h n = h' n) : toD h v = toD h' v := by
  cases v with
  | agg vs =>
    simp only [toD]
    rw [cDs_loc (h := h) (h' := h')]
    intro x hx n hn
    exact hh n ⟨n, by simp only [refV, refA, List.mem_flatMap]; exact ⟨x, hx, hn⟩, .inl rfl⟩
  | clo f vs =>
    simp only [toD]
    rw [toPs_loc (h := h) (h' := h')]
    exact hh
  | tup vs => rfl
  | _ => simp only [toD]; apply cD_loc; intro n hn; exact hh n ⟨n, hn, .inl rfl⟩

/-- Read as plain data, nothing is followed. -/
theorem toD_loc1 {v : V} (hv : ∀ f vs, v ≠ .clo f vs) (hh : ∀ n ∈ refV v, h n = h' n) : toD h v = toD h' v := by
  cases v with
  | agg vs =>
    simp only [toD]
    rw [cDs_loc (h := h) (h' := h')]
    intro x hx n hn
    exact hh n (by simp only [refV, refA, List.mem_flatMap]; exact ⟨x, hx, hn⟩)
  | clo f vs => exact absurd rfl (hv f vs)
  | tup vs => rfl
  | _ => simp only [toD]; apply cD_loc; intro n hn; exact hh n hn

theorem gather_loc : ∀ {vs : List V} {ms : List Bool}, (∀ n, Reach h (vs.flatMap refV) n → h n = h' n) → gather h ms vs = gather h' ms vs
  | [], _, _ => rfl
  | v :: vs, ms, hh => by
    have h1 : ∀ n, Reach h (refV v) n → h n = h' n := fun n ⟨k, hk, hn⟩ => hh n ⟨k, by simp [hk], hn⟩
    have h2 : ∀ n, Reach h (vs.flatMap refV) n → h n = h' n := fun n ⟨k, hk, hn⟩ => hh n ⟨k, by rw [List.flatMap_cons]; exact List.mem_append.2 (.inr hk), hn⟩
    simp only [gather]
    rw [gather_loc h2]
    have h3 := toD_loc h1
    cases gather h' (ms.drop 1) vs with
    | none => rfl
    | some q =>
      obtain ⟨as, ps, bs⟩ := q
      simp only
      have hd : gatherD h v as ps bs = gatherD h' v as ps bs := by unfold gatherD; rw [h3]
      cases v with
      | ref n off =>
        have hn : h n = h' n := h1 n ⟨n, by simp [refV, refA, refC], .inl rfl⟩
        cases off with
        | zero => cases ms.headD false <;> simp only [gather1] <;> rw [refO_loc hn, ← hn]
        | succ k => cases ms.headD false <;> exact hd
      | own n off len =>
        have hn : h n = h' n := h1 n ⟨n, by simp [refV, refA, refC], .inl rfl⟩
        cases ms.headD false with
        | false => exact hd
        | true => simp only [gather1]; rw [hn]
      | nils => cases ms.headD false with
        | false => exact hd
        | true => rfl
      | _ => cases ms.headD false <;> exact hd

theorem gather1_ps {v : V} {as as1 : List Arg} {ps bs ps1 bs1 : List Nat} {m : Bool} (hg : gather1 h as1 ps1 bs1 m v = some (as, ps, bs)) :
    (∃ a, as = a :: as1 ∧ ∀ n off len, a = .own n off len → n ∈ ps) ∧ (∀ n ∈ ps1, n ∈ ps) ∧ ∀ n ∈ ps, n ∈ ps1 ∨ Reach h (refV v) n := by
  have hd : gatherD h v as1 ps1 bs1 = some (as, ps, bs) → (∃ a, as = a :: as1 ∧ ∀ n off len, a = .own n off len → n ∈ ps) ∧ (∀ n ∈ ps1, n ∈ ps) ∧ ∀ n ∈ ps, n ∈ ps1 ∨ Reach h (refV v) n := fun hg => by
    unfold gatherD at hg
    split at hg
    · simp at hg
      obtain ⟨rfl, rfl, _⟩ := hg
      exact ⟨⟨_, rfl, fun _ _ _ e => by cases e⟩, fun _ h => h, fun _ h => .inl h⟩
    · simp at hg
  cases v with
  | ref n0 off =>
    cases off with
    | zero =>
      have hg' : (match h n0 with | some (.box _) => some (Arg.box n0 :: as1, refO h n0 ++ ps1, bs1) | _ => none) = some (as, ps, bs) := by cases m <;> exact hg
      split at hg'
      · simp at hg'
        obtain ⟨rfl, rfl, _⟩ := hg'
        exact ⟨⟨_, rfl, fun _ _ _ e => by cases e⟩, fun _ h => List.mem_append_right _ h, fun n hn => (List.mem_append.1 hn).elim (fun hn => .inr ⟨n0, by simp [refV, refA, refC], .inr hn⟩) .inl⟩
      · simp at hg'
    | succ k => cases m <;> exact hd hg
  | own n0 off len =>
    cases m with
    | false => exact hd hg
    | true =>
      simp only [gather1] at hg
      split at hg
      · simp at hg
        obtain ⟨rfl, rfl, _⟩ := hg
        exact ⟨⟨_, rfl, fun _ _ _ e => by cases e; simp⟩, fun _ h => List.mem_cons_of_mem _ h, fun n hn => (List.mem_cons.1 hn).elim (fun e => .inr ⟨n0, by simp [refV, refA, refC], .inl e⟩) .inl⟩
      · simp at hg
  | nils =>
    cases m with
    | false => exact hd hg
    | true =>
      simp [gather1] at hg
      obtain ⟨rfl, rfl, _⟩ := hg
      exact ⟨⟨_, rfl, fun _ _ _ e => by cases e⟩, fun _ h => h, fun _ h => .inl h⟩
  | _ => cases m <;> exact hd hg

theorem gather_ps : ∀ {vs : List V} {ms : List Bool} {as : List Arg} {ps bs : List Nat}, gather h ms vs = some (as, ps, bs) → (∀ n ∈ ps, Reach h (vs.flatMap refV) n) ∧ ∀ n off len, Arg.own n off len ∈ as → n ∈ ps
  | [], ms, as, ps, bs, hg => by simp [gather] at hg; obtain ⟨rfl, rfl, _⟩ := hg; exact ⟨by simp, by simp⟩
  | v :: vs, ms, as, ps, bs, hg => by
    simp only [gather] at hg
    cases hr : gather h (ms.drop 1) vs with
    | none => rw [hr] at hg; cases hg
    | some q =>
      obtain ⟨as1, ps1, bs1⟩ := q
      obtain ⟨ih, ih2⟩ := gather_ps hr
      rw [hr] at hg
      obtain ⟨⟨a, rfl, g1⟩, g2, g3⟩ := gather1_ps hg
      refine ⟨fun n hn => ?_, fun n off len hm => ?_⟩
      · rcases g3 n hn with hn | ⟨k, hk, h3⟩
        · obtain ⟨k, hk, h3⟩ := ih n hn
          exact ⟨k, by rw [List.flatMap_cons]; exact List.mem_append.2 (.inr hk), h3⟩
        · exact ⟨k, by rw [List.flatMap_cons]; exact List.mem_append.2 (.inl hk), h3⟩
      · rcases List.mem_cons.1 hm with e | hm
        · exact g1 n off len e.symm
        · exact g2 n (ih2 n off len hm)

theorem ownFit_loc {H' : List (Nat × AObj)} : ∀ {as : List Arg} {os : List V}, (∀ n off len, Arg.own n off len ∈ as → h n = h' n) → ownFit h H' as os → ownFit h' H' as os
  | [], _, _, hf => by simp [ownFit]
  | a :: as, [], _, hf => by cases a <;> simp [ownFit]
  | a :: as, o :: os, hh, hf => by
    have ih : ownFit h H' as os → ownFit h' H' as os := ownFit_loc fun n off len hm => hh n off len (List.mem_cons_of_mem _ hm)
    cases a with
    | own n off len =>
      cases o with
      | own k off' len' => exact ⟨hh n off len List.mem_cons_self ▸ hf.1, ih hf.2⟩
      | _ => exact ih hf
    | _ => exact ih hf

theorem objs_loc (r : Nat → Option Nat) : ∀ {l : List Nat} {k : Nat}, (∀ n ∈ l, h n = h' n) → objs h r k l = objs h' r k l
  | [], _, _ => rfl
  | n :: l, k, hh => by
    simp only [objs]
    rw [hh n (by simp), objs_loc r fun m hm => hh m (by simp [hm])]

theorem callVC_loc {P : Program} {tb : Nat} {f : FuncId} {args : List V} {K : OK} (hh : ∀ n, Reach h (args.flatMap refV) n → h n = h' n) (hv : callVC P h tb f args K) : callVC P h' tb f args K := by
  obtain ⟨sh, ms, as, ps, bs, outs, res, H2, hg, h1, h2, h3, h4, h5⟩ := hv
  have hh : ∀ n, Reach h ((flatA sh args).flatMap refV) n → h n = h' n := fun n ⟨k, hk, hn⟩ => hh n ⟨k, flatA_ref hk, hn⟩
  obtain ⟨g1, g2⟩ := gather_ps hg
  refine ⟨sh, ms, as, ps, bs, outs, res, H2, by rw [← gather_loc hh]; exact hg, h1, ?_, h3, ownFit_loc (fun n off len hm => hh n (g1 n (g2 n off len hm))) h4, h5⟩
  rw [← objs_loc _ fun n hn => hh n (g1 n hn)]
  exact h2

theorem reach_of {l : List Nat} {n : Nat} (hn : Reach h l n) : n ∈ l.flatMap fun k => k :: refO h k := by
  obtain ⟨k, hk, hn⟩ := hn
  exact List.mem_flatMap.2 ⟨k, hk, by rcases hn with rfl | hn <;> simp [*]⟩

variable {T : Tys} {P : Program} {K : OK} {tb t : Nat}

theorem loadVC_loc {x : V} (hh : ∀ n ∈ refV x, h n = h' n) (hv : loadVC T h t x K) : loadVC T h' t x K := by
  cases x <;> first
    | exact hv
    | (rename_i y; cases y <;> exact hv)
    | (simp only [loadVC] at hv ⊢; rw [← hh _ (by simp [refV, refA, refC])]; exact hv)

theorem storeTo_loc {ti : TI} {vs : List V} {x : V} (hh : ∀ n ∈ refV x, h n = h' n) (h2 : ∀ v ∈ vs, ∀ n ∈ refC v, h n = h' n) (hv : storeTo h tb ti vs x K) : storeTo h' tb ti vs x K := by
  cases x <;> first
    | exact hv
    | (simp only [storeTo] at hv ⊢; rw [← hh _ (by simp [refV, refA, refC])]; first | exact hv | (rw [← cDs_loc h2]; exact hv))

theorem cells_refs {x : V} {vs : List V} (hc : x.cells = some vs) {v : V} (hv : v ∈ vs) {n : Nat} (hn : n ∈ refC v) : n ∈ refV x := by
  cases x with
  | agg cs => simp [V.cells] at hc; subst hc; simp only [refV, refA, List.mem_flatMap]; exact ⟨v, hv, hn⟩
  | d y =>
    exfalso
    cases y <;> simp [V.cells] at hc <;> first
      | (subst hc; simp at hv; subst hv; simp [refC] at hn; done)
      | (subst hc; simp at hv; obtain ⟨z, _, rfl⟩ := hv; simp [refC] at hn)
  | tup => simp [V.cells] at hc
  | dead => simp [V.cells] at hc
  | clo f cs => simp [V.cells] at hc; subst hc; simp at hv; subst hv; simp [refC] at hn
  | _ => simp [V.cells] at hc; subst hc; simp at hv; subst hv; exact hn

theorem litParts_loc : ∀ {k : Nat} {l : List (Nat × V)}, (∀ q ∈ l, ∀ n ∈ refV q.2, h n = h' n) → litParts h k l = litParts h' k l
  | _, [], _ => rfl
  | k, (i, v) :: l, hh => by
    simp only [litParts]
    rw [litParts_loc fun q hq => hh q (by simp [hq])]
    have : litPart h (i == k) v.cells = litPart h' (i == k) v.cells := by
      cases hb : i == k <;> cases hc : v.cells <;> simp only [litPart]
      exact cDs_loc fun x hx n hn => hh (i, v) (by simp) n (cells_refs hc hx hn)
    rw [this]

theorem sliceVC_loc {x : V} {lo hi mx : Option V} (hh : ∀ n ∈ refV x, h n = h' n) (hv : sliceVC T h t x lo hi mx K) : sliceVC T h' t x lo hi mx K := by
  cases x <;> first
    | exact hv
    | (cases mx with
       | none => simp only [sliceVC] at hv ⊢; rw [← hh _ (by simp [refV, refA, refC])]; exact hv
       | some _ => exact hv)
    | (rename_i y; cases y <;> cases mx <;> exact hv)
    | (cases mx <;> exact hv)

theorem indexVC_loc {e : Option Nat} {x i : V} (hh : ∀ n ∈ refV x, h n = h' n) (hv : indexVC T h e x i K) : indexVC T h' e x i K := by
  cases x <;> first
    | exact hv
    | (rename_i y; cases y <;> exact hv)
    | (simp only [indexVC] at hv ⊢; rw [← hh _ (by simp [refV, refA, refC])]; exact hv)

theorem nilVC_loc {x : V} (hh : ∀ n ∈ refV x, h n = h' n) (hv : nilVC h x K) : nilVC h' x K := by
  cases x <;> first
    | exact hv
    | (rename_i y; cases y <;> exact hv)
    | (simp only [nilVC] at hv ⊢; rw [← hh _ (by simp [refV, refA, refC])]; exact hv)

theorem faVC_loc {off : Nat} {x : V} (hh : ∀ n ∈ refV x, h n = h' n) (hv : faVC h off x K) : faVC h' off x K := by
  cases x <;> first
    | exact hv
    | (rename_i y; cases y <;> exact hv)
    | (simp only [faVC] at hv ⊢; rw [← hh _ (by simp [refV, refA, refC])]; exact hv)

theorem slOf_loc {x : V} (hh : ∀ n ∈ refV x, h n = h' n) : slOf (toD h x) = slOf (toD h' x) := by
  cases x with
  | clo f vs =>
    simp only [toD]
    cases toPs h vs <;> cases toPs h' vs <;> rfl
  | _ => rw [toD_loc1 (by simp) hh]

theorem convVC_loc {ck : CK} {x : V} (hh : ∀ n ∈ refV x, h n = h' n) (hv : convVC h tb ck x K) : convVC h' tb ck x K := by
  cases ck with
  | toStr => simp only [convVC] at hv ⊢; rw [← slOf_loc hh]; exact hv
  | _ => cases x <;> first | exact hv | (rename_i y; cases y <;> exact hv)

theorem lenVC_loc {ot : Option TI} {x : V} (hh : ∀ n ∈ refV x, h n = h' n) (hv : lenVC h ot x K) : lenVC h' ot x K := by
  cases x <;> first
    | exact hv
    | (rename_i y; cases y <;> exact hv)
    | (simp only [lenVC] at hv ⊢; rw [← hh _ (by simp [refV, refA, refC])]; exact hv)

theorem appTo_loc {e : TI} {x : V} {ys : List (List D)} (hh : ∀ n ∈ refV x, h n = h' n) (hv : appTo h tb e x ys K) : appTo h' tb e x ys K := by
  cases x with
  | own n off len =>
    cases off with
    | zero => simp only [appTo] at hv ⊢; rw [← hh _ (by simp [refV, refA, refC])]; exact hv
    | succ k => exact hv
  | _ => exact hv

theorem appendVC_loc {ty ty2 : Option Nat} {s x : V} (hs : ∀ n ∈ refV s, h n = h' n) (hh : ∀ n ∈ refV x, h n = h' n) (hv : appendVC T h tb ty ty2 s x K) : appendVC T h' tb ty ty2 s x K := by
  unfold appendVC at hv ⊢
  cases hi : isIntT T ty2 with
  | true => rw [hi] at hv; exact hv
  | false =>
    rw [hi] at hv
    obtain ⟨h1, hv⟩ := (hv : Req _ _)
    refine (show Req _ _ from ⟨h1, ?_⟩)
    obtain ⟨e, he, hv⟩ := onSome_inv hv
    obtain ⟨i, hi, hv⟩ := onSome_inv hv
    obtain ⟨ys, hys, hv⟩ := onSome_inv hv
    simp only [he, onSome, hi, ← slOf_loc hh, hys]
    exact appTo_loc hs hv

theorem clearVC_loc {ti : TI} {x : V} (hh : ∀ n ∈ refV x, h n = h' n) (hv : clearVC h ti x K) : clearVC h' ti x K := by
  cases x with
  | own n off len => simp only [clearVC] at hv ⊢; rw [← hh n (by simp [refV, refA, refC])]; exact hv
  | _ => exact hv

theorem builtinVC_loc {b : Builtin} {ts : List Nat} {args : List V} (hh : ∀ n ∈ args.flatMap refV, h n = h' n) (hv : builtinVC T h tb b ts args K) : builtinVC T h' tb b ts args K := by
  match args, hh, hv with
  | [x], hh, hv =>
    cases b <;> first
      | exact hv
      | exact lenVC_loc (fun n hn => hh n (by simpa using hn)) hv
      | (obtain ⟨ti, hti, hv⟩ := onSome_inv hv
         simp only [builtinVC, hti, onSome]
         exact clearVC_loc (fun n hn => hh n (by simpa using hn)) hv)
  | [x, y], hh, hv =>
    cases b <;> first
      | exact hv
      | exact appendVC_loc (fun n hn => hh n (by simp [hn])) (fun n hn => hh n (by simp [hn])) hv
  | [], _, hv => exact hv
  | _ :: _ :: _ :: _, _, hv => exact hv

theorem calleeVC_loc {args : List V} {x : V} (hh : ∀ n, Reach h ((x :: args).flatMap refV) n → h n = h' n) (hv : calleeVC P h tb args x K) : calleeVC P h' tb args x K := by
  cases x with
  | d y =>
    cases y with
    | clo f cs =>
      refine callVC_loc (fun n ⟨k, hk, hn⟩ => hh n ⟨k, ?_, hn⟩) hv
      rw [List.flatMap_append] at hk
      rcases List.mem_append.1 hk with hk | hk
      · rw [List.flatMap_cons]; exact List.mem_append.2 (.inr hk)
      · obtain ⟨z, hz, hk⟩ := List.mem_flatMap.1 hk
        obtain ⟨u, _, rfl⟩ := List.mem_map.1 hz
        simp [refV, refA, refC] at hk
    | _ => exact hv
  | clo f vs =>
    refine ⟨hv.1, callVC_loc (fun n ⟨k, hk, hn⟩ => hh n ⟨k, ?_, hn⟩) hv.2⟩
    rw [List.flatMap_append] at hk
    rw [List.flatMap_cons]
    rcases List.mem_append.1 hk with hk | hk
    · exact List.mem_append.2 (.inr hk)
    · refine List.mem_append.2 (.inl ?_)
      obtain ⟨z, hz, hk⟩ := List.mem_flatMap.1 hk
      have hc : z.isC = true := List.all_eq_true.1 hv.1 z hz
      refine List.mem_flatMap.2 ⟨z, hz, ?_⟩
      cases z <;> first | exact hk | (simp [V.isC] at hc)
  | _ => exact hv

theorem opVC_loc {i : Nat} {o : Oper} {ρ ρ' : Operand → V} (hx : ∀ x ∈ o.op.operands, ρ x = ρ' x) (hh : ∀ n ∈ rdN o ρ h, h n = h' n) (hv : opVC T P i o ρ h K) : opVC T P i o ρ' h' K := by
  obtain ⟨dst, op, ty, pos, after, guard⟩ := o
  cases op with
  | move x => simp only [opVC] at hv ⊢; rw [← hx x (by simp [Op.operands])]; exact hv
  | assign x => simp only [opVC] at hv ⊢; rw [← hx x (by simp [Op.operands])]; exact hv
  | pick c x y => simp only [opVC] at hv ⊢; rw [← hx x (by simp [Op.operands]), ← hx y (by simp [Op.operands]), ← hx c (by simp [Op.operands])]; exact hv
  | alloc e => exact hv
  | box e x => simp only [opVC] at hv ⊢; rw [← hx x (by simp [Op.operands])]; exact hv
  | build t parts =>
    have : parts.toList.map (fun q => (q.1, ρ' q.2)) = parts.toList.map fun q => (q.1, ρ q.2) := List.map_congr_left fun q hq => by
      rw [hx q.2 (by simp [Op.operands]; exact ⟨q.1, by simpa using hq⟩)]
    simp only [opVC] at hv ⊢; rw [this]; exact hv
  | buildSlice t len parts =>
    have : parts.toList.map (fun q => (q.1, ρ' q.2)) = parts.toList.map fun q => (q.1, ρ q.2) := List.map_congr_left fun q hq => by
      rw [hx q.2 (by simp [Op.operands]; exact ⟨q.1, by simpa using hq⟩)]
    simp only [opVC] at hv ⊢
    rw [this, ← litParts_loc (h := h) (h' := h')]
    · exact hv
    · intro q hq n hn
      obtain ⟨z, hz, rfl⟩ := List.mem_map.1 hq
      exact hh n (List.mem_flatMap.2 ⟨z, hz, hn⟩)
  | load t x => simp only [opVC] at hv ⊢; rw [← hx x (by simp [Op.operands])]; exact loadVC_loc hh hv
  | store t x y =>
    simp only [opVC] at hv ⊢
    rw [← hx x (by simp [Op.operands]), ← hx y (by simp [Op.operands])]
    obtain ⟨ti, h1, hv⟩ := onSome_inv hv
    obtain ⟨vs, h2, h3, h4, h5, hv⟩ := onSome_inv hv
    simp only [storeVC, h1, h2, onSome]
    exact ⟨h3, h4, h5, storeTo_loc (fun n hn => hh n (List.mem_append.2 (.inl hn))) (fun v hv n hn => hh n (List.mem_append.2 (.inr (cells_refs h2 hv hn)))) hv⟩
  | nilCheck x => simp only [opVC] at hv ⊢; rw [← hx x (by simp [Op.operands])]; exact nilVC_loc hh hv
  | binOp op t x y u => simp only [opVC] at hv ⊢; rw [← hx x (by simp [Op.operands]), ← hx y (by simp [Op.operands])]; exact hv
  | unOp op t x => simp only [opVC] at hv ⊢; rw [← hx x (by simp [Op.operands])]; exact hv
  | convert s d x => simp only [opVC] at hv ⊢; rw [← hx x (by simp [Op.operands])]; exact convVC_loc hh hv
  | makeFunc fn first captured =>
    cases fn with
    | func f =>
      have : captured.toList.map ρ' = captured.toList.map ρ := List.map_congr_left fun q hq => by
        rw [hx q (by simp only [Op.operands]; exact Array.mem_append.2 (.inr (by simpa using hq)))]
      simp only [opVC] at hv ⊢; rw [this]; exact hv
    | _ => exact hv.elim
  | makeSlice t l c => simp only [opVC] at hv ⊢; rw [← hx l (by simp [Op.operands]), ← hx c (by simp [Op.operands])]; exact hv
  | slice t x lo hi mx =>
    have e1 : lo.map ρ' = lo.map ρ := by cases lo with | none => rfl | some z => simp only [Option.map_some]; rw [hx z (by simp [Op.operands])]
    have e2 : hi.map ρ' = hi.map ρ := by cases hi with | none => rfl | some z => simp only [Option.map_some]; rw [hx z (by simp [Op.operands])]
    have e3 : mx.map ρ' = mx.map ρ := by cases mx with | none => rfl | some z => simp only [Option.map_some]; rw [hx z (by simp [Op.operands])]
    simp only [opVC] at hv ⊢; rw [e1, e2, e3, ← hx x (by simp [Op.operands])]; exact sliceVC_loc hh hv
  | fieldAddr t x f =>
    simp only [opVC] at hv ⊢
    obtain ⟨p, h1, h2, hv⟩ := onSome_inv hv
    rw [← hx x (by simp [Op.operands]), h1]
    exact ⟨h2, faVC_loc hh hv⟩
  | field t x f => simp only [opVC] at hv ⊢; rw [← hx x (by simp [Op.operands])]; exact hv
  | indexAddr t x y => simp only [opVC] at hv ⊢; rw [← hx x (by simp [Op.operands]), ← hx y (by simp [Op.operands])]; exact indexVC_loc hh hv
  | index t x y => simp only [opVC] at hv ⊢; rw [← hx x (by simp [Op.operands]), ← hx y (by simp [Op.operands])]; exact hv
  | extract x n => simp only [opVC] at hv ⊢; rw [← hx x (by simp [Op.operands])]; exact hv
  | call c =>
    obtain ⟨callee, args, ts⟩ := c
    have hm : args.toList.map ρ' = args.toList.map ρ := List.map_congr_left fun q hq => by
      rw [hx q (by simp only [Op.operands, Call.operands]; exact Array.mem_append.2 (.inr (by simpa using hq)))]
    have hsub : ∀ n, Reach h ((args.toList.map ρ).flatMap refV) n → h n = h' n := fun n hn => hh n (by
      have := reach_of hn
      simp only [rdN]
      obtain ⟨k, hk, hn⟩ := List.mem_flatMap.1 this
      refine List.mem_flatMap.2 ⟨k, ?_, hn⟩
      obtain ⟨v, hv, hk⟩ := List.mem_flatMap.1 hk
      obtain ⟨z, hz, rfl⟩ := List.mem_map.1 hv
      exact List.mem_flatMap.2 ⟨z, by simp only [Call.operands]; rw [Array.mem_toList_iff]; exact Array.mem_append.2 (.inr (Array.mem_toList_iff.1 hz)), hk⟩)
    cases callee with
    | builtin b => simp only [opVC] at hv ⊢; rw [hm]; exact builtinVC_loc (fun n hn => hsub n ⟨n, hn, .inl rfl⟩) hv
    | value x =>
      have hxx : ρ x = ρ' x := hx x (by simp [Op.operands, Call.operands])
      have tmp : calleeVC P h (1000 * (i + 1)) (args.toList.map ρ) (ρ x) K → calleeVC P h' (1000 * (i + 1)) (args.toList.map ρ') (ρ' x) K := fun hv => by
        rw [hm, ← hxx]
        refine calleeVC_loc (fun n hn => ?_) hv
        have := reach_of hn
        refine hh n ?_
        simp only [rdN]
        obtain ⟨k, hk, hn⟩ := List.mem_flatMap.1 this
        refine List.mem_flatMap.2 ⟨k, ?_, hn⟩
        rw [List.flatMap_cons] at hk
        rcases List.mem_append.1 hk with hk | hk
        · exact List.mem_flatMap.2 ⟨x, by simp [Call.operands], hk⟩
        · obtain ⟨v, hv, hk⟩ := List.mem_flatMap.1 hk
          obtain ⟨z, hz, rfl⟩ := List.mem_map.1 hv
          exact List.mem_flatMap.2 ⟨z, by simp only [Call.operands]; rw [Array.mem_toList_iff]; exact Array.mem_append.2 (.inr (Array.mem_toList_iff.1 hz)), hk⟩
      cases x with
      | func f => simp only [opVC] at hv ⊢; rw [hm]; exact callVC_loc hsub hv
      | tmp t => exact tmp hv
      | const v => exact tmp hv
      | global g => exact tmp hv
    | invoke r m => exact hv.elim
  | _ => exact hv.elim

end
end Go.Rx

namespace Go.Rx
open Go Go.RowKit

/-! ### an operation has one value and one change at a time -/

def Wit (F : OK → Prop) : Prop := ∀ K, F K → ∃ v u, F (eqK v u) ∧ K v u

theorem Wit.leaf (v : V) (u : Upd) : Wit fun K => K v u := fun _ h => ⟨v, u, ⟨rfl, rfl⟩, h⟩
theorem Wit.no : Wit fun _ => False := fun _ h => h.elim
theorem Wit.and {p : Prop} {F : OK → Prop} (hF : Wit F) : Wit fun K => p ∧ F K := fun K h =>
  let ⟨v, u, h1, h2⟩ := hF K h.2; ⟨v, u, ⟨h.1, h1⟩, h2⟩
theorem Wit.or {F G : OK → Prop} (hF : Wit F) (hG : Wit G) : Wit fun K => F K ∨ G K := fun K h => by
  rcases h with h | h
  · obtain ⟨v, u, h1, h2⟩ := hF K h; exact ⟨v, u, .inl h1, h2⟩
  · obtain ⟨v, u, h1, h2⟩ := hG K h; exact ⟨v, u, .inr h1, h2⟩
theorem Wit.ex {α : Sort _} {F : α → OK → Prop} (hF : ∀ x, Wit (F x)) : Wit fun K => ∃ x, F x K := fun K ⟨x, h⟩ =>
  let ⟨v, u, h1, h2⟩ := hF x K h; ⟨v, u, ⟨x, h1⟩, h2⟩
theorem Wit.some {α : Type} {o : Option α} {F : α → OK → Prop} (hF : ∀ x, Wit (F x)) : Wit fun K => onSome o fun x => F x K := by
  cases o with
  | none => exact Wit.no
  | some x => exact hF x
theorem Wit.box {o : Option AObj} {F : List V → OK → Prop} (hF : ∀ x, Wit (F x)) : Wit fun K => onBox o fun x => F x K := by
  cases o with
  | none => exact Wit.no
  | some x => cases x with
    | box c => exact hF c
    | arr => exact Wit.no
theorem Wit.arr {o : Option AObj} {F : Nat → List (List D) → OK → Prop} (hF : ∀ x y, Wit (F x y)) : Wit fun K => onArr o fun x y => F x y K := by
  cases o with
  | none => exact Wit.no
  | some x => cases x with
    | box c => exact Wit.no
    | arr m xs => exact hF m xs
theorem Wit.obj {o : Option AObj} {F : OK → Prop} (hF : Wit F) : Wit fun K => onObj o (F K) := by
  cases o with
  | none => exact Wit.no
  | some x => exact hF
theorem Wit.onInt {x : V} {F : IntKind → Int → OK → Prop} (hF : ∀ x y, Wit (F x y)) : Wit fun K => onInt x fun k n => F k n K := by
  cases x with
  | d y => cases y with
    | int k n => exact hF k n
    | _ => exact Wit.no
  | _ => exact Wit.no

section
variable {h : Heap} {T : Tys} {P : Program} {tb t : Nat}

theorem wit_int {op : BinOp} {k : IntKind} {a b : Int} : Wit (intVC op k a b) := by
  cases op <;> first | exact Wit.no | exact Wit.leaf _ _ | exact Wit.and (Wit.leaf _ _)

theorem wit_str {op : BinOp} {a b : List UInt8} : Wit (strVC op a b) := by
  cases op <;> first | exact Wit.no | exact Wit.leaf _ _ | exact Wit.and (Wit.leaf _ _)

theorem wit_eql {op : BinOp} {b : Bool} : Wit (eqlVC op b) := by
  cases op <;> first | exact Wit.no | exact Wit.leaf _ _

theorem wit_agg {op : BinOp} {k : TK} {x y : Option (List D)} : Wit (aggVC T op k x y) := by
  cases k <;> first
    | exact Wit.no
    | (cases x <;> first
        | exact Wit.no
        | (cases y <;> first
            | exact Wit.no
            | exact Wit.some fun b => wit_eql))

theorem wit_ptr {op : BinOp} {b : Bool} {k : TK} : Wit (ptrVC op b k) := by
  cases k <;> first | exact Wit.no | exact wit_eql

theorem wit_bin {op : BinOp} {x y : V} : Wit (binVC T t op x y) := by
  unfold binVC
  intro K hv
  split at hv
  · exact Wit.and wit_int K hv
  · exact wit_str K hv
  · exact Wit.some (fun b => wit_eql) K hv
  · exact wit_ptr K hv
  · exact wit_ptr K hv
  · exact wit_agg K hv

theorem wit_call {f : FuncId} {args : List V} : Wit (callVC P h tb f args) := by
  unfold callVC
  refine Wit.ex fun sh => Wit.ex fun ms => Wit.ex fun as => Wit.ex fun ps => Wit.ex fun bs => Wit.ex fun outs => Wit.ex fun res => Wit.ex fun H' => Wit.and (Wit.and (Wit.and (Wit.and (Wit.and (Wit.or (Wit.and (Wit.leaf _ _)) (Wit.leaf _ _))))))

theorem wit_len {ot : Option TI} {x : V} : Wit (lenVC h ot x) := by
  cases x <;> first
    | exact Wit.no
    | exact Wit.and (Wit.leaf _ _)
    | exact Wit.and (Wit.arr fun _ _ => Wit.leaf _ _)
    | (rename_i y; cases y <;> first | exact Wit.no | exact Wit.and (Wit.leaf _ _))

theorem wit_appTo {e : TI} {x : V} {ys : List (List D)} : Wit (appTo h tb e x ys) := by
  cases x with
  | own n off len => cases off with
    | zero => exact Wit.arr fun _ _ => Wit.and (Wit.and (Wit.leaf _ _))
    | succ k => exact Wit.no
  | nils => exact Wit.and (Wit.leaf _ _)
  | _ => exact Wit.no

theorem wit_append {ty ty2 : Option Nat} {x y : V} : Wit (appendVC T h tb ty ty2 x y) := by
  unfold appendVC
  cases isIntT T ty2 with
  | true =>
    show Wit fun K => onSome (ty.bind (elemT T)) fun e => onSome (T e) fun i => appZ tb i x y K
    exact Wit.some fun _ => Wit.some fun i => (by
      cases x <;> first
        | exact Wit.no
        | (cases y <;> first
            | exact Wit.no
            | (rename_i z; cases z <;> first | exact Wit.no | exact Wit.and (Wit.and (Wit.and (Wit.and (Wit.leaf _ _)))))))
  | false =>
    show Wit fun K => Req _ _
    exact Wit.and (Wit.some fun _ => Wit.some fun _ => Wit.some fun _ => wit_appTo)

theorem wit_builtin {b : Builtin} {ts : List Nat} {args : List V} : Wit (builtinVC T h tb b ts args) := by
  match args with
  | [x] => cases b <;> first
      | exact Wit.no
      | exact wit_len
      | exact Wit.some fun _ => (by cases x <;> first | exact Wit.no | exact Wit.arr fun _ _ => Wit.and (Wit.and (Wit.leaf _ _)))
  | [x, y] =>
    cases b <;> first
      | exact Wit.no
      | exact wit_append
      | exact Wit.some fun v => Wit.leaf v []
  | [] => exact Wit.no
  | _ :: _ :: _ :: _ => exact Wit.no

theorem wit_slice {x : V} {lo hi mx : Option V} : Wit (sliceVC T h t x lo hi mx) := by
  cases mx with
  | some m => intro K hv; cases x <;> first | exact hv.elim | (rename_i y; cases y <;> exact hv.elim)
  | none =>
    cases x <;> first
      | exact Wit.no
      | exact Wit.some fun _ => Wit.arr fun _ _ => Wit.and (Wit.and (Wit.some fun _ => Wit.some fun _ => Wit.and (Wit.and (Wit.and (Wit.leaf _ _)))))
      | exact Wit.some fun _ => Wit.and (Wit.some fun _ => Wit.some fun _ => Wit.and (Wit.and (Wit.leaf _ _)))
      | (rename_i y; cases y <;> first
          | exact Wit.no
          | exact Wit.and (Wit.some fun _ => Wit.some fun _ => Wit.and (Wit.and (Wit.and (Wit.leaf _ _))))
          | exact Wit.some fun _ => Wit.and (Wit.and (Wit.some fun _ => Wit.some fun _ => Wit.and (Wit.and (Wit.and (Wit.leaf _ _))))))

theorem wit_index {e : Option Nat} {x i : V} : Wit (indexVC T h e x i) := by
  cases x <;> first
    | exact Wit.no
    | exact Wit.some fun _ => Wit.and (Wit.onInt fun _ _ => Wit.arr fun _ _ => Wit.and (Wit.and (Wit.and (Wit.and (Wit.leaf _ _)))))
    | (rename_i y; cases y <;> first
        | exact Wit.no
        | exact Wit.some fun _ => Wit.and (Wit.onInt fun _ _ => Wit.and (Wit.and (Wit.and (Wit.leaf _ _)))))

theorem wit_load {x : V} : Wit (loadVC T h t x) := by
  cases x <;> first
    | exact Wit.no
    | exact Wit.box fun _ => Wit.and (Wit.leaf _ _)
    | exact Wit.arr fun _ _ => Wit.and (Wit.and (Wit.leaf _ _))
    | (rename_i y; cases y <;> first | exact Wit.no | exact Wit.and (Wit.leaf _ _))

theorem wit_storeTo {ti : TI} {vs : List V} {x : V} : Wit (storeTo h tb ti vs x) := by
  cases x <;> first
    | exact Wit.no
    | exact Wit.box fun _ => Wit.and (Wit.leaf _ _)
    | exact Wit.arr fun _ _ => Wit.some fun _ => Wit.and (Wit.and (Wit.and (Wit.leaf _ _)))

theorem wit_conv {ck : CK} {x : V} : Wit (convVC h tb ck x) := by
  cases ck <;> first
    | exact Wit.no
    | exact Wit.some fun _ => Wit.and (Wit.leaf _ _)
    | (cases x <;> first
        | exact Wit.no
        | (rename_i y; cases y <;> first | exact Wit.no | exact Wit.leaf _ _ | exact Wit.and (Wit.leaf _ _)))

theorem wit_move {ty : Nat} {x : V} : Wit (moveVC T tb ty x) := by
  cases x <;> first
    | exact Wit.leaf _ _
    | (show Wit (moveNil T tb (elemT T ty)); cases elemT T ty <;> exact Wit.leaf _ _)

theorem wit_pick {c a b : V} : Wit (pickVC c a b) := by
  cases c with
  | d y => cases y with
    | bool t => exact Wit.leaf _ _
    | _ => exact Wit.no
  | _ => exact Wit.no

theorem wit_nil {x : V} : Wit (nilVC h x) := by
  cases x <;> first
    | exact Wit.no
    | exact Wit.leaf _ _
    | exact Wit.obj (Wit.leaf _ _)
    | exact Wit.arr fun _ _ => Wit.leaf _ _
    | (rename_i y; cases y <;> first | exact Wit.no | exact Wit.leaf _ _)

theorem wit_un {op : UnOp} {x : V} : Wit (unVC op x) := by
  cases x with
  | d y => cases y <;> first | exact Wit.no | (cases op <;> first | exact Wit.no | exact Wit.leaf _ _)
  | _ => exact Wit.no

theorem wit_fa {off : Nat} {x : V} : Wit (faVC h off x) := by
  cases x <;> first
    | exact Wit.no
    | exact Wit.obj (Wit.leaf _ _)
    | exact Wit.arr fun _ _ => Wit.leaf _ _
    | (rename_i y; cases y <;> first | exact Wit.no | exact Wit.leaf _ _)

theorem wit_strIx {x i : V} : Wit (strIx x i) := by
  cases x with
  | d y => cases y with
    | str s => cases i with
      | d z => cases z with
        | int k n => exact Wit.and (Wit.and (Wit.leaf _ _))
        | _ => exact Wit.no
      | _ => exact Wit.no
    | _ => exact Wit.no
  | _ => exact Wit.no

theorem wit_ext {ix : Nat} {x : V} : Wit (extVC ix x) := by
  cases x with
  | tup vs => exact Wit.some fun v => Wit.leaf v []
  | _ => exact Wit.no

theorem wit_make {ti : TI} {x y : V} : Wit (makeVC tb ti x y) := by
  cases x with
  | d a => cases a with
    | int k n => cases y with
      | d b => cases b with
        | int k' n' => exact Wit.and (Wit.and (Wit.and (Wit.and (Wit.and (Wit.leaf _ _)))))
        | _ => exact Wit.no
      | _ => exact Wit.no
    | _ => exact Wit.no
  | _ => exact Wit.no

theorem wit_callee {args : List V} {x : V} : Wit (calleeVC P h tb args x) := by
  cases x with
  | d y => cases y with
    | clo f cs => exact wit_call
    | _ => exact Wit.no
  | clo f vs => exact Wit.and wit_call
  | _ => exact Wit.no

theorem wit_lit {len : Nat} {ti : TI} {o : Option (List (List D) × List Nat)} : Wit (litVC tb len ti o) := by
  cases o with
  | none => exact Wit.no
  | some q => exact Wit.and (Wit.and (Wit.and (Wit.and (Wit.and (Wit.leaf _ _)))))

theorem op_wit {i : Nat} {o : Oper} {ρ : Operand → V} : Wit (opVC T P i o ρ h) := by
  obtain ⟨dst, op, ty, pos, after, guard⟩ := o
  cases op <;> first
    | exact Wit.no
    | exact wit_move
    | exact Wit.leaf _ _
    | exact wit_pick
    | exact Wit.some fun ti => Wit.and (Wit.and (Wit.leaf _ _))
    | exact Wit.some fun ti => Wit.some fun vs => Wit.and (Wit.and (Wit.leaf _ _))
    | exact Wit.some fun _ => Wit.and (Wit.and (Wit.some fun cs => Wit.leaf _ _))
    | exact Wit.some fun _ => wit_lit
    | exact wit_load
    | exact Wit.some fun _ => Wit.some fun _ => Wit.and (Wit.and (Wit.and wit_storeTo))
    | exact wit_nil
    | exact wit_bin
    | exact wit_un
    | exact wit_conv
    | exact Wit.some fun _ => wit_make
    | exact wit_slice
    | exact Wit.some fun _ => Wit.and wit_fa
    | exact Wit.some fun _ => Wit.some fun _ => Wit.and (Wit.and (Wit.leaf _ _))
    | exact wit_index
    | exact Wit.and wit_strIx
    | exact wit_ext
    | (rename_i fn _ _; cases fn <;> first | exact Wit.no | exact Wit.and (Wit.leaf _ _))
    | (rename_i c; obtain ⟨callee, args, ts⟩ := c
       cases callee <;> first
         | exact Wit.no
         | exact wit_builtin
         | (rename_i x; cases x <;> first | exact wit_call | exact wit_callee))

end
end Go.Rx

namespace Go.Rx
open Go Go.RowKit

/-! ### a state of a walk and a state of the machine -/

def evF (e : Nat → V) : Operand → V
  | .tmp t => e t
  | .const v => ofVal v
  | .global _ => .dead
  | .func f => .d (.clo f [])

theorem ev_evF (env : List (Nat × V)) : ev env = evF (eget env) := by funext x; cases x <;> rfl

def put1 (e : Nat → V) (dst : Option Nat) (v : V) : Nat → V := fun t => if dst = some t then v else e t

/-- The temporaries: how many, which are never written, what those hold. -/
structure Slots where
  size : Nat
  pin : Nat → Bool
  val : Nat → Value

def Slots.can (N : Slots) (d : Nat) : Prop := d < N.size ∧ N.pin d = false

structure SRo (okIn U : Nat → Prop) (w0 : World) (N : Slots) (p : Nat → Prop) (e : Nat → V) (H : Heap) (a : Act) (w : World) (ok : Nat → Prop) (lam : Nat → Option Nat) : Prop where
  ctx : Ctx okIn U w0 p w ok lam H
  rel : ∀ t, VRel w ok lam H (e t) (a.tmps.getD t undef)
  good : ∀ t, VGood p (e t)
  size : a.tmps.size = N.size
  pin : ∀ t, N.pin t = true → a.tmps.getD t undef = N.val t
  defers : a.defers = []
  fr : Fr2 U w0 w0 w

def SR (okIn U : Nat → Prop) (w0 : World) (N : Slots) (p : Nat → Prop) (e : Nat → V) (H : Heap) (a : Act) (w : World) : Prop :=
  ∃ ok lam, SRo okIn U w0 N p e H a w ok lam

section
variable {P : Program} {T : Tys} {okIn U : Nat → Prop} {w0 : World} {N : Slots} {p p' : Nat → Prop} {e : Nat → V} {H H' : Heap} {a : Act} {w w' : World} {ok ok' : Nat → Prop} {lam lam' : Nat → Option Nat} {v0 : V} {cv : Value}

theorem Fr2.trans {w1 w2 : World} (h1 : Fr2 U w0 w0 w1) (h2 : Fr2 U w0 w1 w2) : Fr2 U w0 w0 w2 where
  os := h2.os.trans h1.os
  tape := h2.tape.trans h1.tape
  output := h2.output.trans h1.output
  size := Nat.le_trans h1.size h2.size
  block k hk hn := (h2.block k (Nat.lt_of_lt_of_le hk h1.size) hn).trans (h1.block k hk hn)
  sized := h1.sized.trans h2.sized

theorem Act.getD_put {a : Act} {dst : Option Nat} {v : Value} (hd : ∀ d, dst = some d → d < a.tmps.size) (t : Nat) :
    (a.put dst v).tmps.getD t undef = if dst = some t then v else a.tmps.getD t undef := by
  cases dst with
  | none => simp [Act.put]
  | some d =>
    have := hd d rfl
    simp only [Act.put, Option.some.injEq]
    by_cases hdt : d = t
    · subst hdt; simp [Array.getD, this]
    · rw [if_neg hdt]; by_cases ht : t < a.tmps.size <;> simp [Array.getD, ht, Array.getElem_setIfInBounds, hdt]

theorem Act.size_put {a : Act} {dst : Option Nat} {v : Value} : (a.put dst v).tmps.size = a.tmps.size := by
  cases dst <;> simp [Act.put]

theorem Act.defers_put {a : Act} {dst : Option Nat} {v : Value} : (a.put dst v).defers = a.defers := by
  cases dst <;> rfl

theorem SRo.step (h : SRo okIn U w0 N p e H a w ok lam) (hpp : ∀ n, p n → p' n) {dst : Option Nat} (hd : ∀ d, dst = some d → N.can d) (hE : Eff okIn U w0 p p' w ok lam H v0 H' w' cv lam' ok') :
    SRo okIn U w0 N p' (put1 e dst v0) H' (a.put dst cv) w' ok' lam' where
  ctx := hE.ctx
  rel t := by
    rw [Act.getD_put (by rw [h.size]; exact fun d h => (hd d h).1)]
    unfold put1
    by_cases hdt : dst = some t
    · rw [if_pos hdt, if_pos hdt]; exact hE.val
    · rw [if_neg hdt, if_neg hdt]; exact hE.stab _ _ (h.good t) (h.rel t)
  good t := by
    unfold put1
    by_cases hdt : dst = some t
    · rw [if_pos hdt]; exact hE.vgood
    · rw [if_neg hdt]; exact (h.good t).mono hpp
  size := Act.size_put.trans h.size
  pin t ht := by
    rw [Act.getD_put (by rw [h.size]; exact fun d h => (hd d h).1), if_neg]
    · exact h.pin t ht
    · intro hdt
      have := (hd t hdt).2
      rw [ht] at this; cases this
  defers := Act.defers_put.trans h.defers
  fr := Fr2.trans h.fr hE.fr

theorem SRo.skip (h : SRo okIn U w0 N p e H a w ok lam) {dst : Option Nat} (hd : ∀ d, dst = some d → N.can d) :
    SRo okIn U w0 N p (put1 e dst (.d .und)) H (a.put dst undef) w ok lam :=
  h.step (fun _ h => h) hd (Eff.quiet h.ctx (fun _ h => h) (.d .und) (.d _))

theorem SRo.mono (h : SRo okIn U w0 N p e H a w ok lam) (hpp : ∀ n, p n → p' n) : SRo okIn U w0 N p' e H a w ok lam where
  ctx := ⟨h.ctx.hok, fun n o ho => (h.ctx.good n o ho).mono hpp, fun n hn => hpp n (h.ctx.dom n hn), h.ctx.okb, h.ctx.ownb, h.ctx.size⟩
  rel := h.rel
  good t := (h.good t).mono hpp
  size := h.size
  pin := h.pin
  defers := h.defers
  fr := h.fr

theorem SRo.drawn (h : SRo okIn U w0 N p e H a w ok lam) (k : Nat) : SRo okIn U w0 N p e H a { w with drawn := k } ok lam := by
  have hc : Chg (fun _ => True) w ok lam H { w with drawn := k } ok lam H := Chg.of_old (fun _ _ => rfl) h.ctx.hok.oklt (fun _ h => h) (fun _ _ => .inr rfl) (fun _ _ _ => rfl)
  have hg : ∀ o, OGood (fun _ => True) o := fun o => by cases o with | box c => exact fun v _ => VGood.all v | arr => trivial
  exact { ctx := ⟨⟨h.ctx.hok.inj, h.ctx.hok.lt, h.ctx.hok.dis, h.ctx.hok.oklt, fun n o ho => ObjRel.chg hc trivial (by rw [ho]; simp) (hg o) (fun _ _ => rfl) (h.ctx.hok.obj n o ho)⟩, h.ctx.good, h.ctx.dom, h.ctx.okb, h.ctx.ownb, h.ctx.size⟩
          rel := fun t => hc.v (h.rel t) (VGood.all _)
          good := h.good
          size := h.size
          pin := h.pin
          defers := h.defers
          fr := ⟨h.fr.os, h.fr.tape, h.fr.output, h.fr.size, h.fr.block, h.fr.sized⟩ }

theorem ofCell_rel (v : Value) : VRel w ok lam H (ofCell v) v := by
  cases v with
  | int k n => exact .d (.int k n)
  | bool b => exact .d (.bool b)
  | string s =>
    simp only [ofCell]
    cases hl : s.data.toList.length.ble 4096 with
    | false => exact .dead
    | true =>
      have : s.data.toList.length ≤ LEN := by have := Nat.le_of_ble_eq_true hl; unfold LEN; omega
      exact .d (.str _ this)
  | pointer A => cases A with
    | none => exact .d .nilp
    | some A => exact .dead
  | slice A l c => cases A with
    | none =>
      cases l with
      | zero => cases c with
        | zero => exact .nils
        | succ c => exact .dead
      | succ l => exact .dead
    | some A => exact .dead
  | _ => exact .dead

theorem ofVal_rel (v : Value) : VRel w ok lam H (ofVal v) v := by
  have key : ∀ (cs : Array Value), Rel2 (VRel w ok lam H) (cs.toList.map ofCell) cs.toList := fun cs => ⟨by simp, fun i x y hx hy => by
    rw [List.getElem?_map, hy] at hx; simp at hx; subst hx; exact ofCell_rel y⟩
  cases v with
  | agg cs => exact VRel.mkAgg (key cs)
  | tuple cs => exact VRel.mkTup (key cs)
  | _ => simp only [ofVal]; exact ofCell_rel _

theorem ofCell_good (v : Value) : VGood p (ofCell v) := by
  unfold ofCell
  split <;> first | exact .d _ | exact .nils | exact .dead | (cases List.length _ |>.ble 4096 <;> first | exact .d _ | exact .dead)

theorem ofVal_good (v : Value) : VGood p (ofVal v) := by
  cases v with
  | agg cs => exact .agg fun x hx => by obtain ⟨y, _, rfl⟩ := List.mem_map.1 hx; exact ofCell_good y
  | tuple cs => exact .tup fun x hx => by obtain ⟨y, _, rfl⟩ := List.mem_map.1 hx; exact ofCell_good y
  | _ => simp only [ofVal]; exact ofCell_good _

theorem SRo.ev (h : SRo okIn U w0 N p e H a w ok lam) (x : Operand) : VRel w ok lam H (evF e x) (a.eval x) := by
  cases x with
  | tmp t => exact h.rel t
  | const v => exact ofVal_rel v
  | global g => exact .dead
  | func f => exact .d (.clo f [] [] rfl fun i d v h1 _ => by simp at h1)

theorem SRo.evGood (h : SRo okIn U w0 N p e H a w ok lam) (x : Operand) : VGood p (evF e x) := by
  cases x with
  | tmp t => exact h.good t
  | const v => exact ofVal_good v
  | global g => exact .dead
  | func f => exact .d _

/-- An operation at a state: its value, its change, its marks. -/
def Acts (T : Tys) (P : Program) (all : List Oper) (i : Nat) (o : Oper) (e : Nat → V) (H : Heap) (v : V) (u : Upd) (f : Foot) : Prop :=
  match o.guard with
  | none => opVC T P i o (evF e) H (eqK v u) ∧ f = ⟨tmpsOf o, o.dst, rdN o (evF e) H, u.map (·.1)⟩
  | some (j, want) => ∃ t, guardT all j = some t ∧
    ((e t = .d (.bool want) ∧ opVC T P i o (evF e) H (eqK v u) ∧ f = ⟨t :: tmpsOf o, o.dst, rdN o (evF e) H, u.map (·.1)⟩) ∨
     ((e t = .d (.bool (!want)) ∨ e t = .d .und) ∧ v = .d .und ∧ u = [] ∧ f = ⟨[t], o.dst, [], []⟩))

theorem yielded_of {ops : Array Oper} {tmps : Array Value} {j t : Nat} (hg : guardT ops.toList j = some t) : yielded ops tmps j = (match tmps.getD t undef with | .bool b => some b | _ => none) := by
  unfold guardT at hg
  unfold yielded
  have : (ops[j]?).bind (·.dst) = some t := by rw [← Array.getElem?_toList]; exact hg
  rw [this]
  simp only [Option.bind_some]
  rcases Nat.lt_or_ge t tmps.size with hlt | hge
  · simp [Array.getD, hlt]
    split <;> simp_all
  · simp [Array.getD, Nat.not_lt.2 hge, undef]

theorem acts_wp (hT : TyOK P T) (h : SR okIn U w0 N p e H a w) {ops : Array Oper} {i : Nat} {o : Oper} (hi : ops[i]? = some o) (hf : Fresh p (1000 * (i + 1))) (hd : ∀ d, o.dst = some d → N.can d)
    {u : Upd} {f : Foot} (hA : Acts T P ops.toList i o e H v0 u f) {Q : Exit → Act → World → Prop} {K : Act → World → Prop}
    (hK : ∀ a' w', SR okIn U w0 N (pX p (1000 * (i + 1))) (put1 e o.dst v0) (updF u H) a' w' → K a' w') : wpOp P ops Q i K a w := by
  obtain ⟨ok, lam, h⟩ := h
  have run : opVC T P i o (evF e) H (eqK v0 u) → o.wp P a w K Q := fun hop =>
    Oper.wp_mono (fun a' w' ⟨cv, lam', ok', ha, hE⟩ => hK a' w' ⟨ok', lam', by rw [ha]; exact h.step (fun n hn => .inl hn) hd hE⟩) (op_sound hT h.ctx hf h.ev h.evGood hop)
  have skip : v0 = .d .und → u = [] → K (a.put o.dst undef) w := fun hv hu => hK _ _ ⟨ok, lam, by rw [hv, hu]; exact (h.skip hd).mono fun n hn => .inl hn⟩
  unfold wpOp
  rw [hi]
  simp only
  cases hgd : o.guard with
  | none =>
    simp only [Acts, hgd] at hA
    simp only [Region.wanted, hgd, if_true]
    exact .inl (run hA.1)
  | some q =>
    obtain ⟨j, want⟩ := q
    simp only [Acts, hgd] at hA
    obtain ⟨t, ht, hA⟩ := hA
    have hy := yielded_of (tmps := a.tmps) ht
    have hr := h.rel t
    simp only [Region.wanted, hgd]
    rcases hA with ⟨he, hop, _⟩ | ⟨he, hv, hu, _⟩
    · rw [he] at hr
      have : a.tmps.getD t undef = .bool want := by generalize a.tmps.getD t undef = y at hr; cases hr.inv_d; rfl
      rw [hy, this]
      simp only [beq_self_eq_true, if_true]
      exact .inl (run hop)
    · have hn : (yielded ops a.tmps j == some want) = false := by
        rw [hy]
        rcases he with he | he
        · rw [he] at hr
          have : a.tmps.getD t undef = .bool (!want) := by generalize a.tmps.getD t undef = y at hr; cases hr.inv_d; rfl
          rw [this]; cases want <;> rfl
        · rw [he] at hr
          have : a.tmps.getD t undef = undef := by generalize a.tmps.getD t undef = y at hr; cases hr.inv_d; rfl
          rw [this]; rfl
      rw [hn]
      simp only [Bool.false_eq_true, if_false]
      exact skip hv hu

end
end Go.Rx

namespace Go.Rx
open Go Go.RowKit

/-! ### a region in its order -/

theorem eget_app (s : St) (dst : Option Nat) (v : V) (u : Upd) : eget (s.app dst v u).env = put1 (eget s.env) dst v := by
  funext t
  cases dst with
  | none => simp [St.app, put1]
  | some d =>
    simp only [St.app, eget, put1, Option.some.injEq]
    by_cases h : d = t
    · simp [h]
    · have : (d == t) = false := by simpa using h
      rw [this, if_neg h]; rfl

theorem uget_cons (q : Nat × Option AObj) (H : Upd) : uget (q :: H) = fun n => if q.1 = n then q.2 else uget H n := by
  funext n
  obtain ⟨k, o⟩ := q
  simp only [uget]
  by_cases h : k = n
  · simp [h]
  · have : (k == n) = false := by simpa using h
    rw [this, if_neg h]; rfl

theorem uget_rev (u H : Upd) : uget (u.reverse ++ H) = updF u (uget H) := by
  induction u generalizing H with
  | nil => rfl
  | cons q u ih =>
    rw [List.reverse_cons, List.append_assoc, List.singleton_append, ih, uget_cons]
    rfl

theorem uget_app (s : St) (dst : Option Nat) (v : V) (u : Upd) : uget (s.app dst v u).H = updF u (uget s.H) := uget_rev u s.H

theorem put1_same {e : Nat → V} {t : Nat} {v : V} (h : e t = v) : put1 e (some t) v = e := by
  funext k
  unfold put1
  by_cases hk : t = k
  · subst hk; rw [if_pos rfl, h]
  · rw [if_neg (by simpa using hk)]

theorem guardV_of {all : List Oper} {env : List (Nat × V)} {j : Nat} (h : guardV all env j ≠ .dead) : ∃ t, guardT all j = some t ∧ guardV all env j = eget env t := by
  unfold guardV at h ⊢
  unfold guardT
  cases ha : all[j]? with
  | none => rw [ha] at h; exact absurd rfl h
  | some o =>
    rw [ha] at h
    simp only at h
    simp only [Option.bind_some]
    cases hd : o.dst with
    | none => rw [hd] at h; exact absurd rfl h
    | some t => exact ⟨t, rfl, rfl⟩

section
variable {P : Program} {T : Tys} {okIn U : Nat → Prop} {w0 : World} {N : Slots} {Q : Exit → Act → World → Prop}

def Lt (k n : Nat) : Prop := n < k

theorem fresh_lt (i : Nat) : Fresh (Lt (1000 * (i + 1))) (1000 * (i + 1)) := fun n h1 _ h => by unfold Lt at h; omega

theorem SR.mono {p p' : Nat → Prop} {e : Nat → V} {H : Heap} {a : Act} {w : World} (h : SR okIn U w0 N p e H a w) (hpp : ∀ n, p n → p' n) : SR okIn U w0 N p' e H a w :=
  let ⟨ok, lam, h⟩ := h; ⟨ok, lam, h.mono hpp⟩

theorem nil_eq {t d : Nat} {e : Nat} {A : Option Addr} {l c : Nat} {w : World} (ht : P.underlying t = some (.slice e)) : (Op.equalIn (d + 1) t (.slice A l c) (.slice none 0 0)).run P w = .ok A.isNone w := by
  simp only [Op.equalIn, Sem.run_bind, run_underlying ht, Result.andThen_ok]
  cases A <;> rfl

theorem nil_run {t : Nat} {x y : Operand} {e : Nat} {A : Option Addr} {l c : Nat} {w : World} (ht : P.underlying t = some (.slice e)) :
    (binRun .eql t x y (.slice A l c) (.slice none 0 0)).run P w = .ok (.bool A.isNone) w ∧ (binRun .neq t x y (.slice A l c) (.slice none 0 0)).run P w = .ok (.bool (!A.isNone)) w := by
  have heq : (Op.equal t (.slice A l c) (.slice none 0 0)).run P w = .ok A.isNone w := by
    unfold Op.equal
    exact nil_eq (d := 9999) ht
  refine ⟨?_, ?_⟩
  · unfold binRun
    simp only [Sem.run_bind, guard_other (P := P) (w := w) (op := .eql) (t := t) (x := x) (y := y) (a := .slice A l c) (b := .slice none 0 0) (by simp) (by simp), Result.andThen_ok]
    simp only [binOp, Sem.run_bind, heq, Result.andThen_ok, Sem.run_pure]
  · unfold binRun
    simp only [Sem.run_bind, guard_other (P := P) (w := w) (op := .neq) (t := t) (x := x) (y := y) (a := .slice A l c) (b := .slice none 0 0) (by simp) (by simp), Result.andThen_ok]
    simp only [binOp, Sem.run_bind, heq, Result.andThen_ok, Sem.run_pure]

/-- A slice, asked whether it is nil. -/
theorem nilOf_sound {ok : Nat → Prop} {lam : Nat → Option Nat} {H : Heap} {w : World} {x : V} {v : Value} {S : Bool → Prop} (hx : VRel w ok lam H x v) (hs : nilOf H x = some S) :
    ∃ A l c, v = .slice A l c ∧ S A.isNone := by
  cases x with
  | d y =>
    cases y with
    | sl xs =>
      simp only [nilOf, Option.some.injEq] at hs
      subst hs
      have hy := hx.inv_d
      cases hy with
      | sl0 A c => exact ⟨A, 0, c, rfl, fun _ => rfl⟩
      | sl _ m b o cap vs _ _ _ _ _ _ => exact ⟨_, _, _, rfl, fun h => by simp at h⟩
    | _ => simp [nilOf] at hs
  | own n off len =>
    simp only [nilOf] at hs
    split at hs
    · rename_i m xs hH
      simp only [Option.some.injEq] at hs
      subst hs
      cases hx with | own _ h2 =>
      obtain ⟨_, h | ⟨b, o, cap, cs, T, fr, h1, h2, _⟩⟩ := h2 m xs hH
      · exact ⟨_, _, _, h.2.1, fun _ => h.2.2⟩
      · exact ⟨_, _, _, h2, fun h => by simp at h⟩
    · cases hs
  | nils =>
    simp only [nilOf, Option.some.injEq] at hs
    subst hs
    cases hx
    exact ⟨none, 0, 0, rfl, rfl⟩
  | _ => simp [nilOf] at hs

theorem nd_quiet (hT : TyOK P T) {ok : Nat → Prop} {lam : Nat → Option Nat} {H : Heap} {w : World} {q : Nat → Prop} {op : BinOp} {t : Nat} {x y : Operand} {a b : V} {va vb : Value} {S : Bool → Prop}
    (hs : (bif isSl (T t) then ndBin H op a b else none) = some S) (ha : VRel w ok lam H a va) (hb : VRel w ok lam H b vb) :
    ∃ v, S v ∧ Quiet P w ok lam H q (.d (.bool v)) [] True (binRun op t x y va vb) := by
  cases hsl : isSl (T t) with
  | false => rw [hsl] at hs; cases hs
  | true =>
    rw [hsl] at hs
    simp only [cond_true] at hs
    obtain ⟨e, he⟩ := isSl_und hT hsl
    cases b with
    | nils =>
      cases hb
      simp only [ndBin] at hs
      cases op <;> simp only [reduceCtorEq] at hs
      case eql =>
        obtain ⟨A, l, c, rfl, hS⟩ := nilOf_sound ha hs
        exact ⟨A.isNone, hS, _, (nil_run he).1, rfl, .d (.bool _), fun _ => .d _⟩
      case neq =>
        cases hn : nilOf H a with
        | none => rw [hn] at hs; cases hs
        | some S0 =>
          rw [hn] at hs
          simp only [Option.map_some, Option.some.injEq] at hs
          subst hs
          obtain ⟨A, l, c, rfl, hS⟩ := nilOf_sound ha hn
          exact ⟨!A.isNone, by simpa using hS, _, (nil_run he).2, rfl, .d (.bool _), fun _ => .d _⟩
    | _ => simp [ndBin] at hs

theorem cap_quiet (hT : TyOK P T) {ok : Nat → Prop} {lam : Nat → Option Nat} {H : Heap} {w : World} {q : Nat → Prop} {ts : Array Nat} {ty : Nat} {l : List V} {vs : List Value} {K : OK}
    (hv : capVC H (slTy T ts.toList) l K) (hr : Rel2 (VRel w ok lam H) l vs) :
    ∃ v, K v [] ∧ Quiet P w ok lam H q v [] True (Builtin.cap_ ts ty ⟨vs⟩) := by
  have hty : slTy T ts.toList = true → ∃ t e, ts[0]? = some t ∧ P.underlying t = some (.slice e) := fun h => by
    unfold slTy at h
    cases hh : ts.toList.head? with
    | none => rw [hh] at h; cases h
    | some t =>
      rw [hh] at h
      obtain ⟨e, he⟩ := isSl_und hT (t := t) h
      exact ⟨t, e, by rw [← Array.getElem?_toList, ← List.head?_eq_getElem?]; exact hh, he⟩
  have run : slTy T ts.toList = true → ∀ A n c, (Builtin.cap_ ts ty ⟨[.slice A n c]⟩).run P w = .ok (.int .i64 c) w := fun h A n c => by
    obtain ⟨t, e, h1, h2⟩ := hty h
    simp [Builtin.cap_, h1, run_underlying h2, goInt]
  match l, hv, hr with
  | [.own n off len], hv, hr =>
    obtain ⟨v, rest, rfl, hx, hrest⟩ := hr.uncons
    obtain rfl := hrest.nil_left
    obtain ⟨h1, h2⟩ := hv
    obtain ⟨m, xs, hn, h3⟩ := onArr_inv h2
    cases hx with | own _ g =>
    obtain ⟨_, g | ⟨b, o, cap, cs, T', fr, g1, rfl, g3, _⟩⟩ := g m xs hn
    · obtain ⟨_, rfl, rfl⟩ := g
      exact ⟨_, h3 0 (Nat.le_refl _), _, run h1 _ _ _, rfl, .d (.int _ _), fun _ => .d _⟩
    · exact ⟨_, h3 cap g3, _, run h1 _ _ _, rfl, .d (.int _ _), fun _ => .d _⟩
  | [.d (.sl xs)], hv, hr =>
    obtain ⟨v, rest, rfl, hx, hrest⟩ := hr.uncons
    obtain rfl := hrest.nil_left
    obtain ⟨h1, h3⟩ := hv
    have hy := hx.inv_d
    cases hy with
    | sl0 A c => exact ⟨_, h3 c (Nat.zero_le _), _, run h1 _ _ _, rfl, .d (.int _ _), fun _ => .d _⟩
    | sl _ m b o cap vs hc _ _ _ _ _ => exact ⟨_, h3 cap hc, _, run h1 _ _ _, rfl, .d (.int _ _), fun _ => .d _⟩
  | [.nils], hv, hr =>
    obtain ⟨v, rest, rfl, hx, hrest⟩ := hr.uncons
    obtain rfl := hrest.nil_left
    obtain ⟨h1, h3⟩ := hv
    cases hx
    exact ⟨_, h3, _, run h1 _ _ _, rfl, .d (.int _ _), fun _ => .d _⟩

theorem step_sound (hT : TyOK P T) {p : Nat → Prop} {e : Nat → V} {H : Heap} {a : Act} {w : World} (h : SR okIn U w0 N p e H a w) {ops : Array Oper} {i : Nat} {o : Oper} (hi : ops[i]? = some o) (hg : o.guard = none) (hd : ∀ d, o.dst = some d → N.can d) {K' : OK}
    (hv : stepVC T P i o (evF e) H K') :
    opVC T P i o (evF e) H K' ∨ ∃ v, K' v [] ∧ ∀ {K : Act → World → Prop}, (∀ a' w', SR okIn U w0 N (pX p (1000 * (i + 1))) (put1 e o.dst v) H a' w' → K a' w') → wpOp P ops Q i K a w := by
  obtain ⟨ok, lam, h⟩ := h
  have fin : ∀ {v : V} {s : Sem Value}, execOp a.eval o = (do pure (.value (← s))) → K' v [] → Quiet P w ok lam H p v [] True s →
      ∃ v, K' v [] ∧ ∀ {K : Act → World → Prop}, (∀ a' w', SR okIn U w0 N (pX p (1000 * (i + 1))) (put1 e o.dst v) H a' w' → K a' w') → wpOp P ops Q i K a w := fun {v s} he hk hq => by
    refine ⟨v, hk, fun {K} hK => ?_⟩
    have h1 := wp_value (Q := Q) (o := o) he (Quiet.does (tb := 1000 * (i + 1)) h.ctx trivial hq)
    unfold wpOp
    rw [hi]
    simp only [Region.wanted, hg, if_true]
    exact .inl (Oper.wp_mono (fun a' w' ⟨cv, lam', ok', ha, hE⟩ => hK a' w' ⟨ok', lam', by rw [ha]; exact h.step (fun n hn => .inl hn) hd hE⟩) h1)
  obtain ⟨dst, op, ty, pos, after, guard⟩ := o
  cases op with
  | binOp op t x y u =>
    have hv : onNd (bif isSl (T t) then ndBin H op (evF e x) (evF e y) else none) K' (opVC T P i ⟨dst, .binOp op t x y u, ty, pos, after, guard⟩ (evF e) H K') := hv
    cases hs : (bif isSl (T t) then ndBin H op (evF e x) (evF e y) else none) with
    | none => rw [hs] at hv; exact .inl hv
    | some S =>
      rw [hs] at hv
      obtain ⟨v, h1, h2⟩ := nd_quiet (q := p) (x := x) (y := y) hT hs (h.ev x) (h.ev y)
      exact .inr (fin (s := binRun op t x y (a.eval x) (a.eval y)) rfl (hv v h1) h2)
  | call c =>
    obtain ⟨callee, args, ts⟩ := c
    cases callee with
    | builtin b =>
      cases b with
      | cap =>
        have hv : capVC H (slTy T ts.toList) (args.toList.map (evF e)) K' := hv
        obtain ⟨v, h1, h2⟩ := cap_quiet (q := p) (ty := ty) hT hv (vs := (args.map a.eval).toList) (rel_args h.ev args)
        exact .inr (fin (s := Builtin.cap_ ts ty (args.map a.eval)) (by simp only [execOp, resolve, pure_bind, invoke]; rfl) h1 h2)
      | _ => exact .inl hv
    | _ => exact .inl hv
  | _ => exact .inl hv

theorem seq_sound (hT : TyOK P T) {ops : Array Oper} (hdst : ∀ o ∈ ops.toList, ∀ d, o.dst = some d → N.can d) {K : St → Prop}
    (hQ : ∀ s a w, SR okIn U w0 N (fun _ => True) (eget s.env) (uget s.H) a w → K s → Q .normal a w) :
    ∀ (l : List Oper) (i : Nat) (s : St) (a : Act) (w : World), ops.toList.drop i = l → SR okIn U w0 N (Lt (1000 * (i + 1))) (eget s.env) (uget s.H) a w →
      seqVC T P ops.toList i l s K → wpOps P ops Q (List.range' i l.length) a w := by
  intro l
  induction l with
  | nil => intro i s a w _ h hv; exact hQ s a w (h.mono fun _ _ => trivial) hv
  | cons o l ih =>
    intro i s a w hl h hv
    have hi : ops[i]? = some o := by
      have := List.getElem?_drop (xs := ops.toList) (i := i) (j := 0)
      rw [hl] at this
      rw [← Array.getElem?_toList]
      simpa using this.symm
    have hl' : ops.toList.drop (i + 1) = l := by rw [← List.drop_drop, hl]; rfl
    have ho : o ∈ ops.toList := by rw [← Array.getElem?_toList] at hi; exact List.mem_of_getElem? hi
    simp only [List.length_cons, List.range'_succ, wpOps_cons]
    have go : ∀ {s' : St} {v : V} {u : Upd} {f : Foot}, eget s'.env = put1 (eget s.env) o.dst v → uget s'.H = updF u (uget s.H) →
        Acts T P ops.toList i o (eget s.env) (uget s.H) v u f → seqVC T P ops.toList (i + 1) l s' K → wpOp P ops Q i (wpOps P ops Q (List.range' (i + 1) l.length)) a w := by
      intro s' v u f he hH hA hs
      refine acts_wp hT h hi (fresh_lt i) (hdst o ho) hA fun a' w' h' => ih (i + 1) s' a' w' hl' ?_ hs
      rw [he, hH]
      refine h'.mono fun n hn => ?_
      unfold pX Lt at hn
      unfold Lt
      omega
    simp only [seqVC] at hv
    cases hg : o.guard with
    | none =>
      rw [hg] at hv
      simp only at hv
      rw [ev_evF] at hv
      rcases step_sound (Q := Q) hT h hi hg (hdst o ho) hv with hv | ⟨v, hk, hstep⟩
      · obtain ⟨v, u, h1, h2⟩ := op_wit _ hv
        refine go (f := ⟨tmpsOf o, o.dst, rdN o (evF (eget s.env)) (uget s.H), u.map (·.1)⟩) (eget_app s o.dst v u) (uget_app s o.dst v u) ?_ h2
        simp only [Acts, hg]
        exact ⟨h1, trivial⟩
      · refine hstep fun a' w' h' => ih (i + 1) _ a' w' hl' ?_ hk
        rw [eget_app, uget_app]
        refine h'.mono fun n hn => ?_
        unfold pX Lt at hn
        unfold Lt
        omega
    | some q =>
      obtain ⟨j, want⟩ := q
      rw [hg] at hv
      simp only at hv
      have hne : guardV ops.toList s.env j ≠ .dead := by intro h; rw [h] at hv; exact hv
      obtain ⟨t, ht, hgv⟩ := guardV_of hne
      rw [ht] at hv
      cases hx : guardV ops.toList s.env j with
      | d y =>
        rw [hx] at hv
        rw [hx] at hgv
        cases y with
        | bool b =>
          simp only at hv
          by_cases hb : b = want
          · have hv := hv.1 hb
            subst hb
            have he : eget (s.app (some t) (.d (.bool b)) []).env = eget s.env := by rw [eget_app, put1_same hgv.symm]
            rw [ev_evF, he] at hv
            obtain ⟨v, u, h1, h2⟩ := op_wit _ hv
            refine go (f := ⟨t :: tmpsOf o, o.dst, rdN o (evF (eget s.env)) (uget s.H), u.map (·.1)⟩) (s' := (s.app (some t) (.d (.bool b)) []).app o.dst v u) (by rw [eget_app, he]) (uget_app _ _ _ _) ?_ h2
            simp only [Acts, hg]
            exact ⟨t, ht, .inl ⟨hgv.symm, h1, rfl⟩⟩
          · have hb' : b = !want := by cases b <;> cases want <;> simp_all
            have hv := hv.2 hb'
            have he : eget (s.app (some t) (.d (.bool (!want))) []).env = eget s.env := by rw [eget_app, put1_same (hb' ▸ hgv.symm)]
            refine go (f := ⟨[t], o.dst, [], []⟩) (s' := (s.app (some t) (.d (.bool (!want))) []).app o.dst (.d .und) []) (by rw [eget_app, he]) (uget_app _ _ _ _) ?_ hv
            simp only [Acts, hg]
            exact ⟨t, ht, .inr ⟨.inl (hb' ▸ hgv.symm), by simp⟩⟩
        | und =>
          simp only at hv
          refine go (f := ⟨[t], o.dst, [], []⟩) (s' := s.app o.dst (.d .und) []) (eget_app _ _ _ _) (uget_app _ _ _ _) ?_ hv
          simp only [Acts, hg]
          exact ⟨t, ht, .inr ⟨.inr hgv.symm, by simp⟩⟩
        | _ => exact hv.elim
      | _ => rw [hx] at hv; exact hv.elim

end
end Go.Rx

namespace Go.Rx
open Go Go.RowKit

/-! ### writes in any order -/

section
variable {α : Type}

def upG (u : List (Nat × α)) (H : Nat → α) : Nat → α := u.foldl (fun h p => fun n => if p.1 = n then p.2 else h n) H

theorem upG_ne : ∀ {u : List (Nat × α)} {H : Nat → α} {n : Nat}, n ∉ u.map (·.1) → upG u H n = H n
  | [], _, _, _ => rfl
  | q :: u, H, n, h => by
    have h1 : upG (q :: u) H n = upG u (fun n => if q.1 = n then q.2 else H n) n := rfl
    rw [h1, upG_ne (fun hn => h (by simp [hn]))]
    rw [if_neg (fun e => h (by simp [e]))]

theorem upG_congr : ∀ {u : List (Nat × α)} {H H' : Nat → α} {n : Nat}, (n ∉ u.map (·.1) → H n = H' n) → upG u H n = upG u H' n
  | [], _, _, _, h => h (by simp)
  | q :: u, H, H', n, h => by
    have h1 : ∀ H : Nat → α, upG (q :: u) H n = upG u (fun n => if q.1 = n then q.2 else H n) n := fun _ => rfl
    rw [h1, h1]
    refine upG_congr fun hn => ?_
    by_cases e : q.1 = n
    · rw [if_pos e, if_pos e]
    · rw [if_neg e, if_neg e]
      exact h (by simp only [List.map_cons, List.mem_cons, not_or]; exact ⟨Ne.symm e, hn⟩)

theorem upG_eq {u : List (Nat × α)} {H H' : Nat → α} {n : Nat} (h : n ∈ u.map (·.1)) : upG u H n = upG u H' n := upG_congr fun hn => absurd h hn

theorem upG_comm {u u' : List (Nat × α)} {H : Nat → α} (h : ∀ n, n ∈ u.map (·.1) → n ∉ u'.map (·.1)) : upG u (upG u' H) = upG u' (upG u H) := by
  funext n
  by_cases h1 : n ∈ u.map (·.1)
  · rw [upG_ne (h n h1)]; exact upG_eq h1
  · rw [upG_ne h1]
    exact (upG_congr fun _ => (upG_ne h1).symm)

def runG (S : Nat → Bool) : Nat → List (List (Nat × α)) → (Nat → α) → (Nat → α)
  | _, [], σ => σ
  | k, w :: ws, σ => runG S (k + 1) ws (bif S k then upG w σ else σ)

theorem runG_agree {S S' : Nat → Bool} {t : Nat} : ∀ {k : Nat} {ws : List (List (Nat × α))} {σ σ' : Nat → α},
    (∀ j w, ws[j]? = some w → S (k + j) ≠ S' (k + j) → t ∉ w.map (·.1)) → σ t = σ' t → runG S k ws σ t = runG S' k ws σ' t
  | _, [], _, _, _, h => h
  | k, w :: ws, σ, σ', hw, h => by
    simp only [runG]
    refine runG_agree (fun j w' hj hne => hw (j + 1) w' (by simpa using hj) (by rwa [← Nat.add_assoc, Nat.add_right_comm])) ?_
    have h0 := hw 0 w rfl
    simp only [Nat.add_zero] at h0
    cases hS : S k <;> cases hS' : S' k <;> simp only [cond_true, cond_false]
    · exact h
    · rw [upG_ne (h0 (by simp [hS, hS']))]; exact h
    · rw [upG_ne (h0 (by simp [hS, hS']))]; exact h
    · exact upG_congr fun _ => h

theorem runG_push {S : Nat → Bool} {w : List (Nat × α)} : ∀ {k : Nat} {ws : List (List (Nat × α))} {σ : Nat → α},
    (∀ j w', ws[j]? = some w' → S (k + j) = true → ∀ n, n ∈ w.map (·.1) → n ∉ w'.map (·.1)) → runG S k ws (upG w σ) = upG w (runG S k ws σ)
  | _, [], _, _ => rfl
  | k, w' :: ws, σ, h => by
    simp only [runG]
    have ih := fun σ => runG_push (S := S) (w := w) (k := k + 1) (ws := ws) (σ := σ) (fun j w' hj hS => h (j + 1) w' (by simpa using hj) (by rwa [← Nat.add_assoc, Nat.add_right_comm]))
    cases hS : S k <;> simp only [cond_true, cond_false]
    · exact ih σ
    · rw [← ih, upG_comm (h 0 w' rfl (by simpa using hS))]

theorem runG_ins {S S' : Nat → Bool} {i : Nat} {w : List (Nat × α)} : ∀ {k : Nat} {ws : List (List (Nat × α))} {σ : Nat → α}, ws[i]? = some w → S (k + i) = false →
    (∀ j, S' (k + j) = (S (k + j) || j == i)) → (∀ j w', i < j → ws[j]? = some w' → S (k + j) = true → ∀ n, n ∈ w.map (·.1) → n ∉ w'.map (·.1)) →
    runG S' k ws σ = upG w (runG S k ws σ) := by
  induction i with
  | zero =>
    intro k ws σ hi hS hS' hd
    cases ws with
    | nil => simp at hi
    | cons w0 ws =>
      simp at hi; subst hi
      simp only [runG]
      have h0 := hS' 0
      simp only [Nat.add_zero] at h0 hS
      rw [h0, hS]
      simp only [beq_self_eq_true, Bool.or_true, cond_true, cond_false]
      rw [← runG_push (fun j w' hj hSj => hd (j + 1) w' (by omega) (by simpa using hj) (by rwa [← Nat.add_assoc, Nat.add_right_comm]))]
      funext t
      refine runG_agree (fun j w' hj hne => ?_) rfl
      exfalso
      apply hne
      have := hS' (j + 1)
      rw [← Nat.add_assoc, Nat.add_right_comm] at this
      simpa using this
  | succ i ih =>
    intro k ws σ hi hS hS' hd
    cases ws with
    | nil => simp at hi
    | cons w0 ws =>
      simp at hi
      simp only [runG]
      have h0 := hS' 0
      simp only [Nat.add_zero] at h0
      rw [h0]
      have : (0 == i + 1) = false := rfl
      rw [this, Bool.or_false]
      refine ih hi (by rwa [← Nat.add_assoc, Nat.add_right_comm] at hS) (fun j => ?_) (fun j w' hj hw hSj => hd (j + 1) w' (by omega) (by simpa using hw) (by rwa [← Nat.add_assoc, Nat.add_right_comm]))
      have := hS' (j + 1)
      rw [← Nat.add_assoc, Nat.add_right_comm] at this
      rw [this]
      simp

theorem runG_take {S : Nat → Bool} : ∀ {i k : Nat} {ws : List (List (Nat × α))} {σ : Nat → α}, (∀ j, S (k + j) = decide (j < i)) → runG S k ws σ = runG (fun _ => true) 0 (ws.take i) σ := by
  intro i
  have none : ∀ {k : Nat} {ws : List (List (Nat × α))} {σ : Nat → α}, (∀ j, S (k + j) = false) → runG S k ws σ = σ := by
    intro k ws
    induction ws generalizing k with
    | nil => intros; rfl
    | cons w ws ih =>
      intro σ h
      simp only [runG]
      have h0 := h 0
      simp only [Nat.add_zero] at h0
      rw [h0, ih (fun j => by have := h (j + 1); rwa [← Nat.add_assoc, Nat.add_right_comm] at this)]; rfl
  have shift : ∀ {k k' : Nat} {ws : List (List (Nat × α))} {σ : Nat → α}, runG (fun _ => true) k ws σ = runG (fun _ => true) k' ws σ := by
    intro k k' ws
    induction ws generalizing k k' with
    | nil => intros; rfl
    | cons w ws ih => intro σ; simp only [runG]; exact ih
  induction i with
  | zero => intro k ws σ h; rw [none (fun j => by rw [h j]; simp)]; rfl
  | succ i ih =>
    intro k ws σ h
    cases ws with
    | nil => rfl
    | cons w ws =>
      simp only [runG, List.take_succ_cons]
      have h0 := h 0
      simp only [Nat.add_zero] at h0
      rw [h0, ih (fun j => by have := h (j + 1); rw [← Nat.add_assoc, Nat.add_right_comm] at this; rw [this]; simp)]
      simp only [Nat.zero_lt_succ, decide_true, cond_true]
      exact shift

end

theorem updF_upG (u : Upd) (H : Heap) : updF u H = upG u H := rfl

def dstW (dst : Option Nat) (v : V) : List (Nat × V) := dst.toList.map fun d => (d, v)

theorem put1_upG (e : Nat → V) (dst : Option Nat) (v : V) : put1 e dst v = upG (dstW dst v) e := by
  cases dst with
  | none => funext t; simp [put1, dstW, upG]
  | some d => funext t; simp [put1, dstW, upG]

theorem dstW_keys (dst : Option Nat) (v : V) (n : Nat) : n ∈ (dstW dst v).map (·.1) ↔ dst = some n := by
  cases dst <;> simp [dstW, eq_comm]

end Go.Rx

namespace Go.Rx
open Go Go.RowKit

/-! ### a region in any order -/

structure Ef where
  dst : Option Nat
  v : V
  u : Upd
  f : Foot

inductive Runs (T : Tys) (P : Program) (all : List Oper) : Nat → List Oper → (Nat → V) → Heap → List Ef → (Nat → V) → Heap → Prop
  | nil (i : Nat) (e : Nat → V) (H : Heap) : Runs T P all i [] e H [] e H
  | cons {i : Nat} {o : Oper} {l : List Oper} {e : Nat → V} {H : Heap} {v : V} {u : Upd} {f : Foot} {es : List Ef} {e' : Nat → V} {H' : Heap}
      (h : Acts T P all i o e H v u f) (hr : Runs T P all (i + 1) l (put1 e o.dst v) (updF u H) es e' H') : Runs T P all i (o :: l) e H (⟨o.dst, v, u, f⟩ :: es) e' H'

section
variable {P : Program} {T : Tys} {all : List Oper}

theorem draw_runs : ∀ {l : List Oper} {i : Nat} {s : St} {fs : List Foot} {K : St → List Foot → Prop}, drawVC T P all i l s fs K →
    ∃ es s', Runs T P all i l (eget s.env) (uget s.H) es (eget s'.env) (uget s'.H) ∧ K s' ((es.map (·.f)).reverse ++ fs) := by
  intro l
  induction l with
  | nil => intro i s fs K h; exact ⟨[], s, .nil _ _ _, h⟩
  | cons o l ih =>
    intro i s fs K h
    have go : ∀ {v : V} {u : Upd} {f : Foot}, Acts T P all i o (eget s.env) (uget s.H) v u f → drawVC T P all (i + 1) l (s.app o.dst v u) (f :: fs) K →
        ∃ es s', Runs T P all i (o :: l) (eget s.env) (uget s.H) es (eget s'.env) (uget s'.H) ∧ K s' ((es.map (·.f)).reverse ++ fs) := by
      intro v u f hA hd
      obtain ⟨es, s', h1, h2⟩ := ih hd
      rw [eget_app, uget_app] at h1
      exact ⟨_, s', .cons hA h1, by simpa using h2⟩
    simp only [drawVC] at h
    cases hg : o.guard with
    | none =>
      rw [hg] at h
      simp only at h
      rw [ev_evF] at h
      obtain ⟨v, u, h1, h2⟩ := op_wit _ h
      refine go (v := v) (u := u) ?_ h2
      simp only [Acts, hg]
      exact ⟨h1, trivial⟩
    | some q =>
      obtain ⟨j, want⟩ := q
      rw [hg] at h
      simp only at h
      have hne : guardV all s.env j ≠ .dead := by intro h'; rw [h'] at h; exact h
      obtain ⟨t, ht, hgv⟩ := guardV_of hne
      rw [ht] at h
      cases hx : guardV all s.env j with
      | d y =>
        rw [hx] at h
        rw [hx] at hgv
        cases y with
        | bool b =>
          simp only at h
          by_cases hb : b = want
          · have hw := h.1 hb
            subst hb
            rw [ev_evF] at hw
            obtain ⟨v, u, h1, h2⟩ := op_wit _ hw
            refine go (v := v) (u := u) ?_ h2
            simp only [Acts, hg]
            exact ⟨t, ht, .inl ⟨hgv.symm, h1, rfl⟩⟩
          · have hb' : b = !want := by cases b <;> cases want <;> simp_all
            have h := h.2 hb'
            refine go ?_ h
            simp only [Acts, hg]
            exact ⟨t, ht, .inr ⟨.inl (hb' ▸ hgv.symm), by simp⟩⟩
        | und =>
          simp only at h
          refine go ?_ h
          simp only [Acts, hg]
          exact ⟨t, ht, .inr ⟨.inr hgv.symm, by simp⟩⟩
        | _ => exact h.elim
      | _ => rw [hx] at h; exact h.elim

def wE (es : List Ef) : List (List (Nat × V)) := es.map fun x => dstW x.dst x.v
def wH (es : List Ef) : List (List (Nat × Option AObj)) := es.map fun x => x.u

theorem runG_shift {α : Type} {k k' : Nat} {ws : List (List (Nat × α))} {σ : Nat → α} : runG (fun _ => true) k ws σ = runG (fun _ => true) k' ws σ := by
  induction ws generalizing k k' σ with
  | nil => rfl
  | cons w ws ih => simp only [runG]; exact ih

theorem Runs.at {i : Nat} {l : List Oper} {e : Nat → V} {H : Heap} {es : List Ef} {e' : Nat → V} {H' : Heap} (h : Runs T P all i l e H es e' H') :
    es.length = l.length ∧ e' = runG (fun _ => true) 0 (wE es) e ∧ H' = runG (fun _ => true) 0 (wH es) H ∧
    ∀ (k : Nat) o, l[k]? = some o → ∃ x, es[k]? = some x ∧ x.dst = o.dst ∧
      Acts T P all (i + k) o (runG (fun _ => true) 0 ((wE es).take k) e) (runG (fun _ => true) 0 ((wH es).take k) H) x.v x.u x.f := by
  induction h with
  | nil i e H => exact ⟨rfl, rfl, rfl, fun k o hk => by simp at hk⟩
  | @cons i o l e H v u f es e' H' hA hr ih =>
    obtain ⟨h1, h2, h3, h4⟩ := ih
    refine ⟨by simp [h1], ?_, ?_, fun k o' hk => ?_⟩
    · rw [h2, put1_upG]; simp only [wE, List.map_cons, runG, cond_true]; exact runG_shift
    · rw [h3, updF_upG]; simp only [wH, List.map_cons, runG, cond_true]; exact runG_shift
    · cases k with
      | zero =>
        simp at hk; subst hk
        exact ⟨_, rfl, rfl, hA⟩
      | succ k =>
        simp at hk
        obtain ⟨x, hx, hd, hA'⟩ := h4 k o' hk
        refine ⟨x, by simpa using hx, hd, ?_⟩
        have e1 : i + 1 + k = i + (k + 1) := by omega
        rw [e1, put1_upG, updF_upG] at hA'
        simp only [wE, wH, List.map_cons, List.take_succ_cons, runG, cond_true]
        rw [runG_shift (k := 0 + 1) (k' := 0), runG_shift (k := 0 + 1) (k' := 0)]
        exact hA'

theorem Acts.foot {i : Nat} {o : Oper} {e : Nat → V} {H : Heap} {v : V} {u : Upd} {f : Foot} (h : Acts T P all i o e H v u f) : f.wt = o.dst ∧ f.wn = u.map (·.1) := by
  unfold Acts at h
  split at h
  · rw [h.2]; exact ⟨rfl, rfl⟩
  · obtain ⟨t, _, h⟩ := h
    rcases h with ⟨_, _, h⟩ | ⟨_, _, hu, h⟩
    · rw [h]; exact ⟨rfl, rfl⟩
    · rw [h, hu]; exact ⟨rfl, rfl⟩

theorem Acts.loc {i : Nat} {o : Oper} {e e' : Nat → V} {H H' : Heap} {v : V} {u : Upd} {f : Foot} (h : Acts T P all i o e H v u f)
    (he : ∀ t ∈ f.rt, e t = e' t) (hH : ∀ n ∈ f.rn, H n = H' n) : ∃ f', Acts T P all i o e' H' v u f' := by
  have key : (∀ t ∈ tmpsOf o, e t = e' t) → (∀ n ∈ rdN o (evF e) H, H n = H' n) → opVC T P i o (evF e) H (eqK v u) → opVC T P i o (evF e') H' (eqK v u) := fun h1 h2 hop =>
    opVC_loc (fun x hx => by
      cases x with
      | tmp t => exact h1 t (List.mem_filterMap.2 ⟨.tmp t, by simpa using hx, rfl⟩)
      | _ => rfl) h2 hop
  unfold Acts at h ⊢
  split at h
  · exact ⟨_, key (by rw [h.2] at he; exact he) (by rw [h.2] at hH; exact hH) h.1, rfl⟩
  · obtain ⟨t, ht, h⟩ := h
    rcases h with ⟨hb, hop, hf⟩ | ⟨hb, hv, hu, hf⟩
    · rw [hf] at he hH
      have h0 := he t (by simp)
      exact ⟨_, t, ht, .inl ⟨by rw [← h0]; exact hb, key (fun k hk => he k (by simp [hk])) hH hop, rfl⟩⟩
    · rw [hf] at he
      have h0 := he t (by simp)
      exact ⟨_, t, ht, .inr ⟨by rw [← h0]; exact hb, hv, hu, rfl⟩⟩

/-! marks that are apart -/

structure Apart (x y : Foot) : Prop where
  tr : ∀ t, x.wt = some t → t ∉ y.rt
  rt : ∀ t, y.wt = some t → t ∉ x.rt
  tt : ∀ t, x.wt = some t → y.wt ≠ some t
  nn : ∀ n, n ∈ x.wn → n ∉ y.wn
  nr : ∀ n, n ∈ x.wn → n ∉ y.rn
  rn : ∀ n, n ∈ y.wn → n ∉ x.rn

theorem Apart.symm {x y : Foot} (h : Apart x y) : Apart y x := ⟨h.rt, h.tr, fun t h1 h2 => h.tt t h2 h1, fun n h1 h2 => h.nn n h2 h1, h.rn, h.nr⟩

theorem apartL_spec {a b : List Nat} (h : apartL a b = true) : ∀ n, n ∈ a → n ∉ b := fun n hn hb => by
  have := List.all_eq_true.1 h n hn
  simp at this
  exact this hb

theorem apartF_spec {x y : Foot} (h : apartF x y = true) : Apart x y := by
  unfold apartF at h
  simp only [Bool.and_eq_true] at h
  obtain ⟨⟨⟨⟨h1, h2⟩, h3⟩, h4⟩, h5⟩ := h
  refine ⟨fun t ht => ?_, fun t ht => ?_, fun t ht => ?_, apartL_spec h3, apartL_spec h4, apartL_spec h5⟩
  · rw [ht] at h1; simp at h1; exact h1.1
  · rw [ht] at h2; simp at h2; exact h2
  · rw [ht] at h1; simp at h1; exact h1.2

/-! what comes ahead -/

theorem mem_dd {n : Nat} : ∀ {l acc : List Nat}, n ∈ dd acc l ↔ n ∈ acc ∨ n ∈ l
  | [], acc => by simp [dd]
  | m :: l, acc => by
    simp only [dd]
    cases hc : acc.contains m with
    | true =>
      simp only [cond_true]
      rw [mem_dd]
      have : m ∈ acc := by simpa using hc
      constructor
      · rintro (h | h)
        · exact .inl h
        · exact .inr (by simp [h])
      · rintro (h | h)
        · exact .inl h
        · rcases List.mem_cons.1 h with rfl | h
          · exact .inl this
          · exact .inr h
    | false =>
      simp only [cond_false]
      rw [mem_dd]
      simp only [List.mem_cons]
      constructor
      · rintro ((h | h) | h)
        · exact .inr (.inl h)
        · exact .inl h
        · exact .inr (.inr h)
      · rintro (h | h | h)
        · exact .inl (.inr h)
        · exact .inl (.inl h)
        · exact .inr h

theorem befs_spec : ∀ {l : List Oper} {acc : List (List Nat)} {i : Nat}, acc.length = i → edgesOk i l = true →
    (∀ j, j < i → (befs acc l).getD j [] = acc.getD j []) ∧
    ∀ (j : Nat) o, l[j]? = some o → (∀ e ∈ o.after, Region.binds .any e = true → e.on < i + j) ∧
      ∀ k, k ∈ (befs acc l).getD (i + j) [] → ∃ e ∈ o.after, Region.binds .any e = true ∧ (k = e.on ∨ k ∈ (befs acc l).getD e.on []) := by
  intro l
  induction l with
  | nil => intro acc i _ _; exact ⟨fun _ _ => rfl, fun j o h => by simp at h⟩
  | cons o l ih =>
    intro acc i hi he
    simp only [edgesOk, Bool.and_eq_true] at he
    obtain ⟨he, hel⟩ := he
    have hlt : ∀ e ∈ o.after, Region.binds .any e = true → e.on < i := fun e hm hb => by
      have := List.all_eq_true.1 he e (by simpa using hm)
      rw [hb] at this
      simpa using this
    simp only [befs]
    generalize hx : dd [] ((o.after.toList.filter (Region.binds .any)).flatMap fun e => e.on :: acc.getD e.on []) = x
    obtain ⟨h1, h2⟩ := ih (acc := acc ++ [x]) (i := i + 1) (by simp [hi]) hel
    have hold : ∀ j, j < i → (befs (acc ++ [x]) l).getD j [] = acc.getD j [] := fun j hj => by
      rw [h1 j (by omega)]
      rw [List.getD_eq_getElem?_getD, List.getD_eq_getElem?_getD, List.getElem?_append_left (by omega)]
    refine ⟨hold, fun j o' hj => ?_⟩
    cases j with
    | zero =>
      simp at hj; subst hj
      refine ⟨fun e hm hb => by have := hlt e hm hb; omega, fun k hk => ?_⟩
      rw [Nat.add_zero, h1 i (by omega), List.getD_eq_getElem?_getD, List.getElem?_append_right (by omega), hi] at hk
      simp at hk
      rw [← hx, mem_dd] at hk
      rcases hk with hk | hk
      · simp at hk
      · obtain ⟨e, hm, hk⟩ := List.mem_flatMap.1 hk
        obtain ⟨hm, hb⟩ := List.mem_filter.1 hm
        refine ⟨e, by simpa using hm, hb, ?_⟩
        rcases List.mem_cons.1 hk with hk | hk
        · exact .inl hk
        · exact .inr (by rw [hold e.on (hlt e (by simpa using hm) hb)]; exact hk)
    | succ j =>
      simp at hj
      have := h2 j o' hj
      have e1 : i + 1 + j = i + (j + 1) := by omega
      rwa [e1] at this

end
end Go.Rx

namespace Go.Rx
open Go Go.RowKit

section
variable {P : Program} {T : Tys} {okIn U : Nat → Prop} {w0 : World} {N : Slots} {Q : Exit → Act → World → Prop}

def got (listed : Array Bool) (i : Nat) : Bool := listed.getD i false

def pS (listed : Array Bool) (m : Nat) : Prop := m < 1000 ∨ ∃ i, got listed i = true ∧ 1000 * (i + 1) ≤ m ∧ m < 1000 * (i + 1) + 1000

theorem got_set {listed : Array Bool} {i : Nat} (h : i < listed.size) (j : Nat) : got (listed.setIfInBounds i true) j = (got listed j || j == i) := by
  unfold got
  by_cases hij : i = j
  · subst hij; simp [Array.getD, h]
  · have : (j == i) = false := by simpa using fun e => hij e.symm
    rw [getD_set_ne false hij, this, Bool.or_false]

theorem count_false {listed : Array Bool} {i : Nat} (h : i < listed.size) (hf : got listed i = false) : (listed.setIfInBounds i true).toList.count false + 1 = listed.toList.count false := by
  have h' : i < listed.toList.length := by simpa using h
  have hi : listed.toList[i] = false := by unfold got at hf; simpa [Array.getD, h] using hf
  have hpos : 0 < listed.toList.count false := List.count_pos_iff.2 (by rw [← hi]; exact List.getElem_mem h')
  rw [Array.toList_setIfInBounds, List.count_set h', hi]
  have e1 : (false == false) = true := rfl
  have e2 : (true == false) = false := rfl
  rw [if_pos e1, if_neg (by rw [e2]; simp)]
  omega

theorem draw_sound (hT : TyOK P T) {ops : Array Oper} (hdst : ∀ o ∈ ops.toList, ∀ d, o.dst = some d → N.can d) {K : St → Prop}
    (hQ : ∀ s a w, SR okIn U w0 N (fun _ => True) (eget s.env) (uget s.H) a w → K s → Q .normal a w)
    {s0 : St} {a : Act} {w : World} (h0 : SR okIn U w0 N (Lt 1000) (eget s0.env) (uget s0.H) a w)
    (hv : drawVC T P ops.toList 0 ops.toList s0 [] fun s' fs => Req (commP 0 ops.toList fs) (K s')) :
    wpAny P .any ops Q ops.size (Array.replicate ops.size false) a w := by
  obtain ⟨es, s', hr, hc, hK⟩ := draw_runs hv
  obtain ⟨hlen, he', hH', hat⟩ := hr.at
  simp only [List.append_nil, commP, commOK, Bool.and_eq_true, List.reverse_reverse] at hc
  obtain ⟨⟨hedge, _⟩, hcomm⟩ := hc
  obtain ⟨_, hbef⟩ := befs_spec (l := ops.toList) (acc := []) (i := 0) rfl hedge
  have hn : es.length = ops.size := by rw [hlen]; simp
  have hop : ∀ {i : Nat} {o : Oper}, ops[i]? = some o → ops.toList[i]? = some o := fun h => by rw [Array.getElem?_toList]; exact h
  -- marks
  have hpair : ∀ (i j : Nat) x y, j < i → es[i]? = some x → es[j]? = some y → j ∉ (befs [] ops.toList).getD i [] → Apart x.f y.f := by
    intro i j x y hji hx hy hnb
    have hi : i < ops.toList.length := by
      have := (List.getElem?_eq_some_iff.1 hx).1; omega
    have h1 := List.all_eq_true.1 hcomm i (List.mem_range.2 hi)
    have h2 := List.all_eq_true.1 h1 j (List.mem_range.2 hji)
    rw [List.getElem?_map, List.getElem?_map, hx, hy] at h2
    simp only [Option.map_some, Bool.or_eq_true] at h2
    rcases h2 with h2 | h2
    · exact absurd (by simpa using h2) hnb
    · exact apartF_spec h2
  -- closed sets
  have hclosed : ∀ (S : Nat → Bool), (∀ i o, ops[i]? = some o → S i = true → ∀ e ∈ o.after, Region.binds .any e = true → S e.on = true) →
      ∀ (n i : Nat) o, i < n → ops[i]? = some o → (∀ e ∈ o.after, Region.binds .any e = true → S e.on = true) → ∀ k ∈ (befs [] ops.toList).getD i [], S k = true := by
    intro S hS n
    induction n with
    | zero => intro i o hi; omega
    | succ n ih =>
      intro i o hi ho hall k hk
      obtain ⟨hlt, hb⟩ := hbef i o (hop ho)
      obtain ⟨e, hm, hbe, hcase⟩ := hb k (by simpa using hk)
      have hon := hall e hm hbe
      rcases hcase with rfl | hk'
      · exact hon
      · have hl := hlt e hm hbe
        have hsz : e.on < ops.size := by
          have := (Array.getElem?_eq_some_iff.1 ho).1; omega
        obtain ⟨o', ho'⟩ : ∃ o', ops[e.on]? = some o' := ⟨_, Array.getElem?_eq_getElem hsz⟩
        exact ih e.on o' (by omega) ho' (hS e.on o' ho' hon) k hk'
  have main : ∀ (fuel : Nat) (listed : Array Bool) (a : Act) (w : World), listed.size = ops.size → listed.toList.count false = fuel →
      (∀ i o, ops[i]? = some o → got listed i = true → ∀ e ∈ o.after, Region.binds .any e = true → got listed e.on = true) →
      SR okIn U w0 N (pS listed) (runG (got listed) 0 (wE es) (eget s0.env)) (runG (got listed) 0 (wH es) (uget s0.H)) a w →
      wpAny P .any ops Q fuel listed a w := by
    intro fuel
    have fin : ∀ (listed : Array Bool) (a : Act) (w : World), (∀ i, i < ops.size → got listed i = true) →
        SR okIn U w0 N (pS listed) (runG (got listed) 0 (wE es) (eget s0.env)) (runG (got listed) 0 (wH es) (uget s0.H)) a w → Q .normal a w := by
      intro listed a w hall h
      refine hQ s' a w ?_ hK
      have h1 : runG (got listed) 0 (wE es) (eget s0.env) = eget s'.env := by
        rw [he']; funext t
        refine runG_agree (fun j w' hj hne => ?_) rfl
        have : j < (wE es).length := (List.getElem?_eq_some_iff.1 hj).1
        exact absurd (by simpa using hall j (by simpa [wE, hn] using this)) hne
      have h2 : runG (got listed) 0 (wH es) (uget s0.H) = uget s'.H := by
        rw [hH']; funext t
        refine runG_agree (fun j w' hj hne => ?_) rfl
        have : j < (wH es).length := (List.getElem?_eq_some_iff.1 hj).1
        exact absurd (by simpa using hall j (by simpa [wH, hn] using this)) hne
      rw [h1, h2] at h
      exact h.mono fun _ _ => trivial
    have allof : ∀ (listed : Array Bool), listed.size = ops.size → Region.ready .any ops listed = [] → ∀ n i, i < n → i < ops.size → got listed i = true := by
      intro listed hsz hr n
      induction n with
      | zero => intro i hi; omega
      | succ n ih =>
        intro i hi hlt
        cases hg : got listed i with
        | true => rfl
        | false =>
          exfalso
          obtain ⟨o, ho⟩ : ∃ o, ops[i]? = some o := ⟨_, Array.getElem?_eq_getElem hlt⟩
          have : i ∈ Region.ready .any ops listed := by
            rw [mem_ready]
            refine ⟨?_, o, ho, fun e hm hb => ?_⟩
            · have hi' : i < listed.size := by omega
              unfold got at hg
              simpa [Array.getD, hi'] using hg
            · have hl := (hbef i o (hop ho)).1 e hm hb
              exact ih e.on (by omega) (by omega)
          rw [hr] at this; cases this
    induction fuel with
    | zero =>
      intro listed a w hsz hcnt hdc h
      have hall : ∀ i, i < ops.size → got listed i = true := fun i hi => by
        cases hg : got listed i with
        | true => rfl
        | false =>
          have := count_false (listed := listed) (i := i) (by omega) hg
          omega
      refine ⟨?_, fin listed a w hall h⟩
      cases hr : Region.ready .any ops listed with
      | nil => rfl
      | cons i rs =>
        exfalso
        have : i ∈ Region.ready .any ops listed := by rw [hr]; simp
        rw [mem_ready] at this
        obtain ⟨h1, o, ho, _⟩ := this
        have hi := (Array.getElem?_eq_some_iff.1 ho).1
        have h2 := hall i hi
        unfold got at h2
        have hi' : i < listed.size := by omega
        simp [Array.getD, hi'] at h1 h2
        rw [h1] at h2; cases h2
    | succ fuel ih =>
      intro listed a w hsz hcnt hdc h
      refine ⟨fun hr => fin listed a w (fun i hi => allof listed hsz hr (i + 1) i (by omega) hi) h, fun i hi => ?_⟩
      rw [mem_ready] at hi
      obtain ⟨hi0, o, ho, hedges⟩ := hi
      have hlt : i < ops.size := (Array.getElem?_eq_some_iff.1 ho).1
      have hlt' : i < listed.size := by omega
      have hgi : got listed i = false := by unfold got; simp [Array.getD, hlt'] at hi0 ⊢; exact hi0
      obtain ⟨x, hx, hxd, hA⟩ := hat i o (hop ho)
      have hbi := hclosed (got listed) hdc (i + 1) i o (by omega) ho hedges
      -- every other one that tells the states apart is apart
      have hap : ∀ (j : Nat) y, es[j]? = some y → j ≠ i → got listed j ≠ decide (j < i) → Apart x.f y.f := by
        intro j y hy hji hne
        rcases Nat.lt_or_ge j i with hlt2 | hge
        · have hgj : got listed j = false := by cases hg : got listed j <;> simp [hg, hlt2] at hne ⊢
          exact hpair i j x y hlt2 hx hy fun hb => by rw [hbi j hb] at hgj; cases hgj
        · have hlt3 : i < j := by omega
          have hgj : got listed j = true := by
            cases hg : got listed j
            · rw [hg] at hne; simp at hne; omega
            · rfl
          have hjs : j < ops.size := by have := (List.getElem?_eq_some_iff.1 hy).1; omega
          obtain ⟨oj, hoj⟩ : ∃ o', ops[j]? = some o' := ⟨_, Array.getElem?_eq_getElem hjs⟩
          have hbj := hclosed (got listed) hdc (j + 1) j oj (by omega) hoj (hdc j oj hoj hgj)
          exact (hpair j i y x hlt3 hy hx fun hb => by rw [hbj i hb] at hgi; cases hgi).symm
      have hft := hA.foot
      have hloc : ∃ f', Acts T P ops.toList i o (runG (got listed) 0 (wE es) (eget s0.env)) (runG (got listed) 0 (wH es) (uget s0.H)) x.v x.u f' := by
        rw [Nat.zero_add] at hA
        refine hA.loc (fun t ht => ?_) (fun n hn' => ?_)
        · rw [← runG_take (S := fun j => decide (j < i)) (k := 0) (i := i) (fun j => by simp)]
          refine runG_agree (fun j w' hj hne => ?_) rfl
          simp only [wE, List.getElem?_map, Option.map_eq_some_iff] at hj
          obtain ⟨y, hy, rfl⟩ := hj
          rw [dstW_keys]
          intro hd
          rw [Nat.zero_add] at hne
          have hji : j ≠ i := fun e => by subst e; rw [hgi] at hne; simp at hne
          have hyf : y.f.wt = y.dst := by
            have hjs : j < ops.size := by have := (List.getElem?_eq_some_iff.1 hy).1; omega
            obtain ⟨oj, hoj⟩ : ∃ o', ops[j]? = some o' := ⟨_, Array.getElem?_eq_getElem hjs⟩
            obtain ⟨y', hy', hyd, hAy⟩ := hat j oj (hop hoj)
            rw [hy] at hy'; cases hy'
            rw [hAy.foot.1, hyd]
          exact (hap j y hy hji (Ne.symm hne)).rt t (hyf.trans hd) ht
        · rw [← runG_take (S := fun j => decide (j < i)) (k := 0) (i := i) (fun j => by simp)]
          refine runG_agree (fun j w' hj hne => ?_) rfl
          simp only [wH, List.getElem?_map, Option.map_eq_some_iff] at hj
          obtain ⟨y, hy, rfl⟩ := hj
          intro hd
          rw [Nat.zero_add] at hne
          have hji : j ≠ i := fun e => by subst e; rw [hgi] at hne; simp at hne
          have hyf : y.f.wn = y.u.map (·.1) := by
            have hjs : j < ops.size := by have := (List.getElem?_eq_some_iff.1 hy).1; omega
            obtain ⟨oj, hoj⟩ : ∃ o', ops[j]? = some o' := ⟨_, Array.getElem?_eq_getElem hjs⟩
            obtain ⟨y', hy', hyd, hAy⟩ := hat j oj (hop hoj)
            rw [hy] at hy'; cases hy'
            exact hAy.foot.2
          exact (hap j y hy hji (Ne.symm hne)).rn n (by rw [hyf]; exact hd) hn'
      obtain ⟨f', hA'⟩ := hloc
      have hfresh : Fresh (pS listed) (1000 * (i + 1)) := by
        rintro n h1 h2 (h3 | ⟨k, hk, h4, h5⟩)
        · omega
        · have : k = i := by omega
          subst this; rw [hgi] at hk; cases hk
      refine acts_wp hT h ho hfresh (hdst o (List.mem_of_getElem? (hop ho))) hA' fun a' w' h' => ?_
      refine ih _ a' w' (by simpa using hsz) (by have := count_false hlt' hgi; omega) (fun k ok hok hgk e hm hb => ?_) ?_
      · rw [got_set hlt'] at hgk ⊢
        simp only [Bool.or_eq_true, beq_iff_eq] at hgk ⊢
        rcases hgk with hgk | rfl
        · exact .inl (hdc k ok hok hgk e hm hb)
        · rw [ho] at hok; cases hok
          exact .inl (hedges e hm hb)
      · have hE : runG (got (listed.setIfInBounds i true)) 0 (wE es) (eget s0.env) = put1 (runG (got listed) 0 (wE es) (eget s0.env)) o.dst x.v := by
          rw [put1_upG, ← hxd]
          refine runG_ins (i := i) (w := dstW x.dst x.v) (by simp [wE, hx]) (by simpa using hgi) (fun j => by simpa using got_set hlt' j) (fun j w' hij hj hSj n hn1 => ?_)
          simp only [wE, List.getElem?_map, Option.map_eq_some_iff] at hj
          obtain ⟨y, hy, rfl⟩ := hj
          rw [dstW_keys] at hn1 ⊢
          rw [Nat.zero_add] at hSj
          have hjs : j < ops.size := by have := (List.getElem?_eq_some_iff.1 hy).1; omega
          obtain ⟨oj, hoj⟩ : ∃ o', ops[j]? = some o' := ⟨_, Array.getElem?_eq_getElem hjs⟩
          obtain ⟨y', hy', hyd, hAy⟩ := hat j oj (hop hoj)
          rw [hy] at hy'; cases hy'
          have := (hap j y hy (by omega) (by rw [hSj]; simp; omega)).tt n (by rw [hft.1, ← hxd]; exact hn1)
          rw [hAy.foot.1, ← hyd] at this
          exact this
        have hHh : runG (got (listed.setIfInBounds i true)) 0 (wH es) (uget s0.H) = updF x.u (runG (got listed) 0 (wH es) (uget s0.H)) := by
          rw [updF_upG]
          refine runG_ins (i := i) (w := x.u) (by simp [wH, hx]) (by simpa using hgi) (fun j => by simpa using got_set hlt' j) (fun j w' hij hj hSj n hn1 => ?_)
          simp only [wH, List.getElem?_map, Option.map_eq_some_iff] at hj
          obtain ⟨y, hy, rfl⟩ := hj
          rw [Nat.zero_add] at hSj
          have hjs : j < ops.size := by have := (List.getElem?_eq_some_iff.1 hy).1; omega
          obtain ⟨oj, hoj⟩ : ∃ o', ops[j]? = some o' := ⟨_, Array.getElem?_eq_getElem hjs⟩
          obtain ⟨y', hy', hyd, hAy⟩ := hat j oj (hop hoj)
          rw [hy] at hy'; cases hy'
          have := (hap j y hy (by omega) (by rw [hSj]; simp; omega)).nn n (by rw [hft.2]; exact hn1)
          rw [hAy.foot.2] at this
          exact this
        rw [hE, hHh]
        refine h'.mono fun n hn' => ?_
        rcases hn' with (h1 | ⟨k, hk, h2⟩) | h2
        · exact .inl h1
        · exact .inr ⟨k, by rw [got_set hlt', hk]; rfl, h2⟩
        · exact .inr ⟨i, by rw [got_set hlt']; simp, h2⟩
  have hgf : ∀ i, got (Array.replicate ops.size false) i = false := fun i => by
    unfold got
    by_cases hi : i < ops.size <;> simp [Array.getD, hi]
  refine main ops.size _ a w (by simp) (by simp) (fun i o _ hg => by rw [hgf] at hg; cases hg) ?_
  have h1 : ∀ {α : Type} (ws : List (List (Nat × α))) (σ : Nat → α), runG (got (Array.replicate ops.size false)) 0 ws σ = σ := by
    intro α ws σ
    rw [runG_take (i := 0) (fun j => by rw [hgf]; simp)]
    rfl
  rw [h1, h1]
  exact h0.mono fun n hn => .inl hn

end
end Go.Rx

namespace Go.Rx
open Go Go.RowKit

/-! ### a state made ready -/

theorem nodup_cons {n : Nat} {l : List Nat} (h1 : n ∉ l) (h2 : nodup l = true) : nodup (n :: l) = true := by
  simp [nodup, h1, h2]

theorem nodup_iff : ∀ {l : List Nat}, nodup l = true ↔ l.Nodup
  | [] => by simp [nodup]
  | n :: l => by
    simp only [nodup, Bool.and_eq_true, Bool.not_eq_true', List.nodup_cons]
    rw [nodup_iff]
    simp

theorem dd_nodup : ∀ {l acc : List Nat}, acc.Nodup → (dd acc l).Nodup
  | [], acc, h => by simpa [dd, List.Nodup, List.pairwise_reverse] using h.imp (fun h => Ne.symm h)
  | n :: l, acc, h => by
    simp only [dd]
    cases hc : acc.contains n with
    | true => exact dd_nodup h
    | false => exact dd_nodup (List.nodup_cons.2 ⟨by simpa using hc, h⟩)

theorem cap_nodup {l : List Nat} (h : nodup l = true) : nodup (cap l) = true := by
  unfold cap
  cases decide (l.length < 1000) <;> simp [h, nodup]

theorem cap_length (l : List Nat) : (cap l).length < 1000 := by
  unfold cap
  cases h : decide (l.length < 1000)
  · simp
  · simpa using h

theorem order_nodup (h : Heap) (vs : List V) : nodup (order h vs) = true := nodup_iff.2 (dd_nodup List.nodup_nil)

theorem uget_map (l : List (Nat × AObj)) : uget (l.map fun p => (p.1, some p.2)) = hget l := by
  funext n
  induction l with
  | nil => rfl
  | cons q l ih =>
    obtain ⟨k, o⟩ := q
    simp only [List.map_cons, uget, hget]
    rw [ih]

theorem eget_zip (f : Nat → V) : ∀ (keep : List Nat) (t : Nat), eget (keep.zip (keep.map f)) t = if t ∈ keep then f t else .dead
  | [], t => by simp [eget]
  | k :: keep, t => by
    simp only [List.map_cons, List.zip_cons_cons, eget, List.mem_cons]
    by_cases h : k = t
    · subst h; simp
    · have : (k == t) = false := by simpa using h
      rw [this, cond_false, eget_zip f keep t]
      have h' : t ≠ k := Ne.symm h
      simp [h']

section
variable {P : Program} {T : Tys} {okIn U : Nat → Prop} {w0 : World} {N : Slots} {Q : Exit → Act → World → Prop} {w : World} {ok : Nat → Prop} {lam : Nat → Option Nat} {H : Heap}

/-- Some names under their places in a list. -/
theorem Ctx.idx {p : Nat → Prop} (h : Ctx okIn U w0 p w ok lam H) {l : List Nat} (hnd : nodup l = true) {q : Nat → Prop} (hq : ∀ k, k < l.length → q k) :
    Ctx okIn U w0 q w ok (fun k => (l[k]?).bind lam) (hget (objs H (Go.Rx.idx l) 0 l)) := by
  have key : ∀ k, hget (objs H (Go.Rx.idx l) 0 l) k ≠ Option.none → ∃ n, l[k]? = some n ∧ H n ≠ Option.none := fun k hk => by
    rw [hget_objs0] at hk
    cases hl : l[k]? with
    | none => rw [hl] at hk; simp at hk
    | some n =>
      rw [hl] at hk
      refine ⟨n, rfl, fun hn => ?_⟩
      rw [Option.bind_some, hn] at hk
      simp at hk
  refine ⟨h.hok.idx hnd h.hok.oklt (fun _ hb => hb) (fun k n b _ hn hb => h.hok.dis n b hn hb), fun k o ho => ?_, fun k hk => ?_, h.okb, fun k b hk hb => ?_, h.size⟩
  · rw [hget_objs0] at ho
    cases hl : l[k]? with
    | none => rw [hl] at ho; simp at ho
    | some n =>
      rw [hl, Option.bind_some] at ho
      obtain ⟨o', _, rfl⟩ := Option.map_eq_some_iff.1 ho
      exact renO_good (fun n k hn => hq k (List.getElem?_eq_some_iff.1 (idx_some hn)).1) o'
  · obtain ⟨n, hn, _⟩ := key k hk
    exact hq k (List.getElem?_eq_some_iff.1 hn).1
  · obtain ⟨n, hn, hH⟩ := key k hk
    simp only [hn, Option.bind_some] at hb
    exact h.ownb n b hH hb

theorem prep_sound {p : Nat → Prop} (keep : List Nat) {s : St} {a : Act} (h : SR okIn U w0 N p (eget s.env) (uget s.H) a w) :
    SR okIn U w0 N (Lt 1000) (eget (prep keep s).env) (uget (prep keep s).H) a w := by
  obtain ⟨ok, lam, h⟩ := h
  have hlt := cap_length (order (uget s.H) (keep.map (eget s.env)))
  have hnd := cap_nodup (order_nodup (uget s.H) (keep.map (eget s.env)))
  generalize ho : cap (order (uget s.H) (keep.map (eget s.env))) = o at hlt hnd
  have hH : uget (prep keep s).H = hget (objs (uget s.H) (idx o) 0 o) := by
    simp only [prep]
    rw [uget_map, ho]
  have hE : ∀ t, eget (prep keep s).env t = if t ∈ keep then renV (idx o) (eget s.env t) else .dead := fun t => by
    simp only [prep]
    rw [ho, List.map_map]
    exact eget_zip (fun t => renV (idx o) (eget s.env t)) keep t
  have hq : ∀ n k, idx o n = some k → Lt 1000 k := fun n k hn => by
    have := (List.getElem?_eq_some_iff.1 (idx_some hn)).1
    unfold Lt; omega
  refine ⟨ok, fun k => (o[k]?).bind lam, ?_, fun t => ?_, fun t => ?_, h.size, h.pin, h.defers, h.fr⟩
  · rw [hH]
    exact h.ctx.idx hnd fun k hk => by unfold Lt; omega
  · rw [hH, hE]
    by_cases ht : t ∈ keep
    · rw [if_pos ht]; exact renV_rel (ren_idx (uget s.H) lam o) (h.rel t)
    · rw [if_neg ht]; exact .dead
  · rw [hE]
    by_cases ht : t ∈ keep
    · rw [if_pos ht]; exact renV_good hq _
    · rw [if_neg ht]; exact .dead

/-! ### code -/

/-- Every operation writes to a temporary that is there. -/
def codeDst (N : Nat → Bool) : Code → Bool
  | .region _ ops _ => ops.toList.all fun o => match o.dst with | some d => N d | none => true
  | .seq a b => codeDst N a && codeDst N b
  | .cond _ a b => codeDst N a && codeDst N b
  | .block _ c | .loop c | .scope c => codeDst N c
  | _ => true

theorem least {p : Nat → Prop} (h : ∃ n, p n) : ∃ n, p n ∧ ∀ m, p m → n ≤ m := by
  obtain ⟨n, hn⟩ := h
  induction n using Nat.strongRecOn with
  | _ n ih =>
    by_cases hc : ∃ m, m < n ∧ p m
    · obtain ⟨m, hm, hp⟩ := hc; exact ih m hm hp
    · exact ⟨n, hn, fun m hm => Nat.le_of_not_lt fun hlt => hc ⟨m, hlt, hm⟩⟩

def SRs (okIn U : Nat → Prop) (w0 : World) (N : Slots) (s : St) (a : Act) (w : World) : Prop := SR okIn U w0 N (fun _ => True) (eget s.env) (uget s.H) a w

theorem SR.drawn {p : Nat → Prop} {e : Nat → V} {a : Act} (h : SR okIn U w0 N p e H a w) (k : Nat) : SR okIn U w0 N p e H a { w with drawn := k } :=
  let ⟨ok, lam, h⟩ := h; ⟨ok, lam, h.drawn k⟩

theorem code_sound (hT : TyOK P T) {can : Nat → Bool} (hcan : ∀ d, can d = true → N.can d) (hm : P.follows .mixedOrders = true) (hr hl : Hints) : ∀ (c : Code), codeDst can c = true → ∀ {Q : Exit → Act → World → Prop} {K : Exit → St → Prop} {s : St} {a : Act} {w : World},
    (∀ e s a w, SRs okIn U w0 N s a w → K e s → Q e a w) → SRs okIn U w0 N s a w → cVC T P hr hl c s K → c.wp P Q a w := by
  intro c
  induction c with
  | skip => intro _ Q K s a w hQ h hv; exact wp_skip (hQ _ _ _ _ h hv)
  | label l => intro _ Q K s a w hQ h hv; exact wp_label (hQ _ _ _ _ h hv)
  | exit id => intro _ Q K s a w hQ h hv; exact wp_exit (hQ _ _ _ _ h hv)
  | ret => intro _ Q K s a w hQ h hv; exact wp_ret (hQ _ _ _ _ h hv)
  | region id ops draw =>
    intro hd Q K s a w hQ h hv
    have hdst : ∀ o ∈ ops.toList, ∀ d, o.dst = some d → N.can d := fun o ho d hod => by
      have := List.all_eq_true.1 hd o ho
      rw [hod] at this
      exact hcan d this
    have h1 := prep_sound (hr id) h
    cases draw with
    | false =>
      have := seq_sound (Q := Q) hT hdst (K := K .normal) (fun s a w h hK => hQ _ _ _ _ h hK) ops.toList 0 (prep (hr id) s) a w rfl h1 hv
      rw [Array.length_toList, ← List.range_eq_range'] at this
      exact wp_region this
    | true => exact wp_region_any hm (draw_sound hT hdst (K := K .normal) (fun s a w h hK => hQ _ _ _ _ h hK) (h1.drawn _) hv)
  | seq x y ihx ihy =>
    intro hd Q K s a w hQ h hv
    simp only [codeDst, Bool.and_eq_true] at hd
    refine wp_seq (ihx hd.1 (fun e s a w h hK => ?_) h hv)
    cases e with
    | normal => exact ihy hd.2 hQ h hK
    | _ => exact hQ _ _ _ _ h hK
  | cond c x y ihx ihy =>
    intro hd Q K s a w hQ h hv
    simp only [codeDst, Bool.and_eq_true] at hd
    simp only [cVC] at hv
    obtain ⟨ok, lam, h'⟩ := h
    have hc := h'.ev c
    rw [← ev_evF] at hc
    cases hx : ev s.env c with
    | d z =>
      rw [hx] at hv hc
      cases z with
      | bool b =>
        have hb : a.eval c = .bool b := by generalize a.eval c = y at hc; cases hc.inv_d; rfl
        simp only at hv
        cases b with
        | true => exact wp_cond hb (ihx hd.1 hQ ⟨ok, lam, h'⟩ (hv.1 rfl))
        | false => exact wp_cond hb (ihy hd.2 hQ ⟨ok, lam, h'⟩ (hv.2 rfl))
      | _ => exact hv.elim
    | _ => rw [hx] at hv; exact hv.elim
  | block id c ih =>
    intro hd Q K s a w hQ h hv
    refine wp_block (ih hd (fun e s a w h hK => ?_) h hv)
    cases e with
    | exit i =>
      simp only [Exit.inBlock] at hK ⊢
      by_cases hi : i = id
      · rw [if_pos hi] at hK ⊢; exact hQ _ _ _ _ h hK
      · rw [if_neg hi] at hK ⊢; exact hQ _ _ _ _ h hK
    | _ => exact hQ _ _ _ _ h hK
  | loop c ih =>
    intro hd Q K s a w hQ h hv
    obtain ⟨α, st, inv, m, ⟨x0, hx0, hi0⟩, hround⟩ := hv
    let pp : Act → World → Nat → Prop := fun a w n => ∃ x, inv x ∧ SRs okIn U w0 N (st x) a w ∧ m x = n
    have hex : ∀ a w, (∃ n, pp a w n) → ∃ n, pp a w n ∧ ∀ m, pp a w m → n ≤ m := fun a w => least
    classical
    let mu : Act → World → Nat := fun a w => if hx : ∃ n, pp a w n then (hex a w hx).choose else 0
    have hmu : ∀ a w (hx : ∃ n, pp a w n), pp a w (mu a w) ∧ ∀ m, pp a w m → mu a w ≤ m := fun a w hx => by
      have : mu a w = (hex a w hx).choose := dif_pos hx
      rw [this]; exact (hex a w hx).choose_spec
    refine wp_loop (fun a w => ∃ n, pp a w n) mu ⟨_, x0, hi0, ?_, rfl⟩ fun a w hx => ?_
    · rw [← hx0]; exact (prep_sound (hl (firstRegion c)) h).mono fun _ _ => trivial
    · obtain ⟨⟨x1, hI1, hs1, hmu1⟩, _⟩ := hmu a w hx
      refine ih hd (fun e s2 a2 w2 h2 hK => ?_) hs1 (hround x1 hI1)
      cases e with
      | normal =>
        obtain ⟨y, hy, hiy, hmy⟩ := hK
        have hp : pp a2 w2 (m y) := ⟨y, hiy, by rw [← hy]; exact (prep_sound (hl (firstRegion c)) h2).mono fun _ _ => trivial, rfl⟩
        have h3 := (hmu a2 w2 ⟨_, hp⟩).2 _ hp
        exact ⟨⟨_, hp⟩, by omega⟩
      | _ => exact hQ _ _ _ _ h2 hK
  | _ => intro _ Q K s a w hQ h hv; exact hv.elim

end
end Go.Rx
