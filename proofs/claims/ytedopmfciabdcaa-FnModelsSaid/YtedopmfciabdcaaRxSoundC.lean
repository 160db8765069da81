/-
  Part of the proof that the abstract evaluator is right about the model's run; each lemma names its conditions.
-/
import Derived.Test.YtedopmfciabdcaaRxSound15
namespace Go.Rx
open Go Go.RowKit

section
variable {P : Program} {T : Tys} {okIn U : Nat → Prop} {w0 : World} {p : Nat → Prop} {w w' : World} {ok ok' : Nat → Prop} {lam lam' : Nat → Option Nat} {H H' : Heap} {v0 : V} {u0 : Upd} {cv : Value}

theorem zeroAt_length {xs : List (List D)} {off n : Nat} {z : List D} (h : off + n ≤ xs.length) : (zeroAt xs off n z).length = xs.length := by
  simp [zeroAt]; omega

theorem zeroAt_get {xs : List (List D)} {off n : Nat} {z : List D} (h : off + n ≤ xs.length) {i : Nat} {e : List D} (hi : (zeroAt xs off n z)[i]? = some e) :
    (off ≤ i ∧ i < off + n ∧ e = z) ∨ ((i < off ∨ off + n ≤ i) ∧ xs[i]? = some e) := by
  unfold zeroAt at hi
  have h1 : (xs.take off).length = off := by simp; omega
  by_cases ha : i < off
  · rw [List.append_assoc, List.getElem?_append_left (by omega), List.getElem?_take, if_pos ha] at hi
    exact .inr ⟨.inl ha, hi⟩
  · by_cases hb : i < off + n
    · rw [List.append_assoc, List.getElem?_append_right (by omega), h1, List.getElem?_append_left (by simp; omega), List.getElem?_replicate, if_pos (by omega)] at hi
      exact .inl ⟨by omega, hb, (Option.some.inj hi).symm⟩
    · rw [List.getElem?_append_right (by simp; omega), List.getElem?_drop] at hi
      refine .inr ⟨.inr (by omega), ?_⟩
      rw [← hi]; congr 1; simp; omega

theorem zeroAt_none {xs : List (List D)} {off : Nat} {z : List D} : zeroAt xs off 0 z = xs := by simp [zeroAt]

theorem updF_same {H : Heap} {n : Nat} {o : AObj} (h : H n = some o) : updF [(n, some o)] H = H := by
  rw [updF_one]; funext k
  by_cases e : n = k
  · subst e; simp [h]
  · rw [if_neg e]

theorem zeroCells_get {zs : List Value} {n m : Nat} (hm : zs.length = m) {k : Nat} (hk : k < n * m) : (Builtin.zeroCells ⟨zs⟩ n).toList[k]? = zs[k % m]? := by
  have hpos : 0 < m := by rcases Nat.eq_zero_or_pos m with h | h; · subst h; simp at hk
                          · exact h
  have hlt : k % m < zs.length := by rw [hm]; exact Nat.mod_lt _ hpos
  simp only [Builtin.zeroCells, Array.toList_map, Array.toList_range, List.size_toArray, hm]
  rw [List.getElem?_map, List.getElem?_range (by simpa using hk)]
  simp only [Option.map_some]
  rw [List.getElem?_eq_getElem hlt]
  congr 1
  rw [getElem!_pos _ _ (by simpa using hlt)]
  rfl

theorem zeroCells_length {zs : List Value} {n : Nat} : (Builtin.zeroCells ⟨zs⟩ n).toList.length = n * zs.length := by simp [Builtin.zeroCells]

theorem clear_eff (h : Ctx okIn U w0 p w ok lam H) {tb : Nat} {n off len m : Nat} {xs : List (List D)} (hn : H n = some (.arr m xs)) {v : Value} (hv : VRel w ok lam H (.own n off len) v)
    {zs : List Value} {zd : List D} (hzl : zd.length = m) (hz : Rel2 (DRel w ok) zd zs) (h1 : ∀ v ∈ zs, v.oneCell' = true) :
    (v = .slice none 0 0 ∧ ∃ lam' ok', Eff okIn U w0 p (pX p tb) w ok lam H (.tup []) (updF [(n, some (.arr m (zeroAt xs off len zd)))] H) w (.tuple #[]) lam' ok') ∨
    ∃ a cap, v = .slice (some a) len cap ∧
      ((len = 0 ∧ ∃ lam' ok', Eff okIn U w0 p (pX p tb) w ok lam H (.tup []) (updF [(n, some (.arr m (zeroAt xs off len zd)))] H) w (.tuple #[]) lam' ok') ∨
       (len ≠ 0 ∧ ∃ w' lam' ok', (storeCells a (Builtin.zeroCells ⟨zs⟩ len).toList).run P w = .ok () w' ∧ Eff okIn U w0 p (pX p tb) w ok lam H (.tup []) (updF [(n, some (.arr m (zeroAt xs off len zd)))] H) w' (.tuple #[]) lam' ok')) := by
  have quiet : len = 0 → ∃ lam' ok', Eff okIn U w0 p (pX p tb) w ok lam H (.tup []) (updF [(n, some (.arr m (zeroAt xs off len zd)))] H) w (.tuple #[]) lam' ok' := fun e => by
    subst e
    rw [zeroAt_none, updF_same hn]
    exact ⟨lam, ok, Eff.quiet h (fun _ h => .inl h) (.tup rfl (fun i d v h _ => by simp at h)) (.tup (by simp))⟩
  cases hv with | own _ hv =>
  obtain ⟨hle, hv⟩ := hv m xs hn
  rcases hv with ⟨e1, rfl, e3⟩ | ⟨b, o, cap, ⟨cs⟩, Te, fr, hl, rfl, hlc, ho, hb, hoc⟩
  · exact .inl ⟨rfl, quiet e3⟩
  refine .inr ⟨_, cap, rfl, ?_⟩
  by_cases hlen : len = 0
  · exact .inl ⟨hlen, quiet hlen⟩
  refine .inr ⟨hlen, ?_⟩
  have ho : o = off * m := ho.resolve_left (by omega)
  subst ho
  obtain ⟨hm, hmax, hc⟩ := h.hok.obj n _ hn
  rcases hc with ⟨hln, _⟩ | ⟨b', ⟨cs'⟩, Te', fr', hl', hb', hfz, hsz, hel⟩
  · rw [hln] at hl; cases hl
  obtain rfl : b = b' := by rw [hl] at hl'; exact Option.some.inj hl'
  rw [hb] at hb'
  cases hb'
  have hsz' : xs.length * m ≤ cs.length := by simpa using hsz
  have hzsl : zs.length = m := by rw [← hz.1]; exact hzl
  have hvl : (Builtin.zeroCells ⟨zs⟩ len).toList.length = len * m := by rw [zeroCells_length, hzsl]
  generalize hVs : (Builtin.zeroCells ⟨zs⟩ len).toList = Vs at hvl
  have hin : (off + len) * m ≤ xs.length * m := Nat.mul_le_mul_right _ hle
  rw [Nat.add_mul] at hin
  have hone : ∀ v ∈ Vs, v.oneCell' = true := fun v hv => by
    obtain ⟨k, hk, rfl⟩ := List.mem_iff_getElem.1 hv
    have : Vs[k]? = zs[k % m]? := by rw [← hVs]; exact zeroCells_get hzsl (by omega)
    rw [List.getElem?_eq_getElem hk] at this
    exact h1 _ (List.mem_of_getElem? this.symm)
  have hrun := run_storeCells_cells (P := P) b (off * m) Vs 0 w (fun j hj => by
      rw [cell_of_row w b _ ⟨cs⟩ Te fr hb]
      simp; omega) (fun j hj => hfz _ (by simp; omega)) hone
  simp only [Nat.add_zero] at hrun
  have hpn : p n := h.dom n (by rw [hn]; simp)
  have hheap := setCells_heap b Te fr Vs (off * m) w cs hb (by omega)
  obtain ⟨m1, m2, m3, m4⟩ := setCells_meta b Vs (off * m) w
  obtain ⟨b1, b2⟩ := h.hok.upd (p := p) (w' := w.setCells b (off * m) Vs) (n := n) (b := b) (o := .arr m xs) (o' := .arr m (zeroAt xs off len zd))
    hn hl h.good h.dom (fun k hk => setCells_other b _ _ w k hk) m1 (fun c T f hc => by
      rw [hb] at hc; cases hc
      exact ⟨⟨splice cs (off * m) Vs⟩, Te, fr, hheap, by simp [splice]; omega⟩) (.inr ⟨m, xs, _, rfl, rfl, by rw [zeroAt_length hle]⟩) (fun hc => by
      refine ⟨fun e he => ?_, by rw [zeroAt_length hle]; exact hmax, .inr ⟨b, ⟨splice cs (off * m) Vs⟩, Te, fr, hl, hheap, fun k hk => ?_, ?_, fun i' e j' d' hi' hj' => ?_⟩⟩
      · obtain ⟨i, hi⟩ := List.getElem?_of_mem he
        rcases zeroAt_get hle hi with ⟨_, _, rfl⟩ | ⟨_, hx⟩
        · exact hzl
        · exact hm e (List.mem_of_getElem? hx)
      · have hk' : k < cs.length := by simp [splice] at hk; omega
        have hf0 := hfz k (by simpa using hk')
        simp only [World.frozen?, hb] at hf0
        simp only [World.frozen?, hheap]
        exact hf0
      · rw [zeroAt_length hle]; simp [splice]; omega
      · have hsg := fun k => splice_get (l := cs) (off := off * m) (vs := Vs) (k := k) (by omega)
        have hconv : (⟨splice cs (off * m) Vs⟩ : Array Value)[i' * m + j']? = (splice cs (off * m) Vs)[i' * m + j']? := by simp
        rw [hconv, hsg, hvl]
        rcases zeroAt_get hle hi' with ⟨g1, g2, rfl⟩ | ⟨g1, g2⟩
        · have hjm : j' < m := by have := (List.getElem?_eq_some_iff.1 hj').1; omega
          have k1 : off * m ≤ i' * m := Nat.mul_le_mul_right _ g1
          have k2 : (i' + 1) * m ≤ (off + len) * m := Nat.mul_le_mul_right _ g2
          rw [Nat.add_mul, Nat.one_mul, Nat.add_mul] at k2
          have hvg : Vs[i' * m + j' - off * m]? = zs[(i' * m + j' - off * m) % m]? := by rw [← hVs]; exact zeroCells_get hzsl (by omega)
          rw [if_neg (by omega), if_pos (by omega), hvg]
          have : (i' * m + j' - off * m) % m = j' := by
            have e1 : i' * m + j' - off * m = j' + m * (i' - off) := by
              rw [Nat.mul_comm m, Nat.sub_mul]; omega
            rw [e1, Nat.add_mul_mod_self_left, Nat.mod_eq_of_lt hjm]
          rw [this]
          obtain ⟨c, hc1, hc2⟩ := hz.get hj'
          exact ⟨c, hc1, hc2.mono hc.hw hc.hok⟩
        · have hjm : j' < m := by have := (List.getElem?_eq_some_iff.1 hj').1; rw [hm e (List.mem_of_getElem? g2)] at this; exact this
          obtain ⟨c, hc1, hc2⟩ := hel i' e j' d' g2 hj'
          refine ⟨c, ?_, hc2.mono hc.hw hc.hok⟩
          have hc1' : cs[i' * m + j']? = some c := by simpa using hc1
          rcases g1 with g1 | g1
          · have : (i' + 1) * m ≤ off * m := Nat.mul_le_mul_right _ g1
            rw [Nat.add_mul, Nat.one_mul] at this
            rw [if_pos (by omega)]; exact hc1'
          · have : (off + len) * m ≤ i' * m := Nat.mul_le_mul_right _ g1
            rw [Nat.add_mul] at this
            rw [if_neg (by omega), if_neg (by omega)]; exact hc1')
  refine ⟨_, lam, ok, hrun, ?_⟩
  rw [updF_one]
  have hne : ∀ k, (if n = k then some (AObj.arr m (zeroAt xs off len zd)) else H k) ≠ none → H k ≠ none := fun k hk => by
    by_cases e : n = k
    · subst e; rw [hn]; simp
    · rw [if_neg e] at hk; exact hk
  refine ⟨⟨b1, fun k o ho => ?_, fun k hk => .inl (h.dom k (hne k hk)), h.okb, fun k c hk hc => h.ownb k c (hne k hk) hc, by rw [m1]; exact h.size⟩, .tup rfl (fun i d v h _ => by simp at h), .tup (by simp), ⟨m2, m3, m4, by rw [m1]; exact Nat.le_refl _, fun k hk hu => ?_, setCells_sized hb (by omega)⟩, fun y v hg hv => b2.v hv hg⟩
  · by_cases e : n = k
    · rw [if_pos e] at ho; cases ho; trivial
    · rw [if_neg e] at ho; exact (h.good k o ho).mono fun _ h => .inl h
  · refine setCells_other b _ _ w k fun e => hu ?_
    subst e
    exact h.ownb n k (by rw [hn]; simp) hl

theorem clear_does (hT : TyOK P T) (h : Ctx okIn U w0 p w ok lam H) {tb : Nat} {ts : Array Nat} {ty : Nat} {ti : TI} {t : Nat} (h0 : ts[0]? = some t) (hti : (elemT T t).bind T = some ti) {x : V} {xv : Value} (hx : VRel w ok lam H x xv)
    (hv : clearVC H ti x (eqK v0 u0)) : Does P okIn U w0 p tb w ok lam H v0 u0 (Builtin.clear_ ts ty #[xv]) := by
  cases x with
  | own n off len =>
    simp only [clearVC] at hv
    cases hn : H n with
    | none => rw [hn] at hv; exact hv.elim
    | some ob =>
      cases ob with
      | box c => rw [hn] at hv; exact hv.elim
      | arr m xs =>
        rw [hn] at hv
        obtain ⟨rfl, hz0, rfl, rfl⟩ := hv
        obtain ⟨e, it, info, de, ze, infoe, z2, ht, hTe, hte⟩ := elemT_at hT hti
        have hzl : ze.cells.size = ti.size := by have := hte.zrel.1; rw [hz0] at this; simpa using this.symm
        have hzd := zeroD_rel hte.zrel
        have hz1 : ∀ v ∈ ze.cells.toList, v.oneCell' = true := fun v hv => by
          obtain ⟨i, hi, rfl⟩ := List.mem_iff_getElem.1 hv
          obtain ⟨y, hy, hr⟩ := hte.zrel.get' (List.getElem?_eq_getElem hi)
          cases y with
          | d y =>
            have h1 := hte.zone _ (List.mem_of_getElem? hy) y rfl
            exact VRel.one (ok := ok) (lam := lam) (H := H) (.d (hr w ok)) (by simpa [V.one] using h1)
          | nils m' =>
            have : ze.cells.toList[i] = .slice none 0 0 := hr
            rw [this]; rfl
        have hzc : ze.cells = ⟨ze.cells.toList⟩ := rfl
        rcases clear_eff (P := P) h (tb := tb) hn hx (zs := ze.cells.toList) (zd := zeroD ti.zero) (by rw [zeroD_length]; exact hz0) (hzd.mono fun d v _ hr => hr w ok) hz1 with ⟨rfl, lam', ok', hE⟩ | ⟨a, cap, rfl, ⟨rfl, lam', ok', hE⟩ | ⟨hl, w', lam', ok', hrun, hE⟩⟩
        · exact ⟨_, _, lam', ok', by simp [Builtin.clear_, h0, ht.run_und], hE⟩
        · exact ⟨_, _, lam', ok', by simp [Builtin.clear_, h0, ht.run_und], hE⟩
        · refine ⟨_, _, lam', ok', ?_, hE⟩
          rw [← hzc] at hrun
          cases len with
          | zero => exact absurd rfl hl
          | succ len => simp [Builtin.clear_, h0, ht.run_und, hte.run_zero, hrun]
  | _ => exact hv.elim
end
end Go.Rx
