/-
  Part of the proof that the abstract evaluator is right about the model's run; each lemma names its conditions.
-/
import Derived.Test.YtedopmfciabdcaaRxSound14
namespace Go.Rx
open Go Go.RowKit

section
variable {P : Program} {T : Tys} {okIn U : Nat → Prop} {w0 : World} {p : Nat → Prop} {w w' : World} {ok ok' : Nat → Prop} {lam lam' : Nat → Option Nat} {H H' : Heap} {v0 : V} {u0 : Upd} {cv : Value}

theorem remF_ne {ls : List Nat} {H : Heap} {n : Nat} {o : AObj} (h : remF ls H n = some o) : n ∉ ls ∧ H n = some o := by
  unfold remF at h
  split at h
  · cases h
  · exact ⟨‹_›, h⟩

theorem splice_get {l : List Value} {off : Nat} {vs : List Value} {k : Nat} (hle : off + vs.length ≤ l.length) :
    (splice l off vs)[k]? = if k < off then l[k]? else if k < off + vs.length then vs[k - off]? else l[k]? := by
  unfold splice
  have h1 : (l.take off).length = off := by simp; omega
  split
  · rename_i hk
    rw [List.append_assoc, List.getElem?_append_left (by omega), List.getElem?_take, if_pos hk]
  · rename_i hk
    split
    · rename_i hk2
      rw [List.append_assoc, List.getElem?_append_right (by omega), h1, List.getElem?_append_left (by omega)]
    · rename_i hk2
      rw [List.getElem?_append_right (by simp; omega), List.getElem?_drop]
      congr 1
      simp
      omega

theorem storeEl_eff (hT : TyOK P T) (h : Ctx okIn U w0 p w ok lam H) {tb : Nat} {t n i j : Nat} {ti : TI} (hTt : T t = some ti) {vs : List V} {x : V} {ptv xv : Value}
    (hx : VRel w ok lam H x xv) (hxc : x.cells = some vs) (hlen : vs.length = ti.size) (hone : (vs.all V.one) = true) (hp : VRel w ok lam H (.el n i j) ptv)
    {m : Nat} {xs : List (List D)} (hn : H n = some (.arr m xs)) {ds : List D} {ls : List Nat} (hcd : cDs H vs = some (ds, ls)) (hi : i < xs.length) (hj : j + ti.size ≤ m) (hls : n ∉ ls) :
    ∃ w' lam' ok', (Instr.storeAt t ptv xv).run P w = .ok () w' ∧
      Eff okIn U w0 p (pX p tb) w ok lam H (.d .und) (updF (ls.map (·, none) ++ [(n, some (.arr m (xs.set i ((lget xs i).take j ++ ds ++ (lget xs i).drop (j + ds.length)))))]) H) w' undef lam' ok' := by
  obtain ⟨info, d, z, ht⟩ := hT t ti hTt
  have hxv := V.cells_sound hx hxc
  have hdv := cDs_sound h.hok hxv hcd
  obtain ⟨hm, hmax, hc⟩ := h.hok.obj n _ hn
  have hxi : xs[i]? = some (lget xs i) := by simp [lget, List.getD, hi]
  have hrow : (lget xs i).length = m := hm _ (List.mem_of_getElem? hxi)
  rcases hc with ⟨_, hz⟩ | ⟨b, ⟨cs⟩, Te, fr, hl, hb, hfz, hsz, hel⟩
  · subst hz; simp at hi
  have hsz' : xs.length * m ≤ cs.length := by simpa using hsz
  cases hp with | el _ hp =>
  obtain ⟨_, b', hb', rfl⟩ := hp m xs hn
  obtain rfl : b = b' := by rw [hl] at hb'; exact Option.some.inj hb'
  have hxl : xv.cells.size = ti.size := by have := hxv.1; simp at this; omega
  have hdl : ds.length = ti.size := by have := hdv.1; simp at this; omega
  have hin : (i + 1) * m ≤ xs.length * m := Nat.mul_le_mul_right _ hi
  rw [Nat.add_mul, Nat.one_mul] at hin
  have h1 : ∀ v ∈ xv.cells.toList, v.oneCell' = true := fun v hv => by
    obtain ⟨i, hi, rfl⟩ := List.mem_iff_getElem.1 hv
    obtain ⟨y, hy, hr⟩ := hxv.get' (List.getElem?_eq_getElem hi)
    exact hr.one (List.all_eq_true.1 hone y (List.mem_of_getElem? hy))
  have hrun := store_run (P := P) (w := w) (off := i * m + j) ht hxl hb (by omega) (fun k hk => hfz k (by simpa using hk)) h1
  have hpn : p n := h.dom n (by rw [hn]; simp)
  obtain ⟨r1, r2⟩ := h.hok.rem (p := p) ls h.good h.dom
  have hg1 : ∀ k o, remF ls H k = some o → OGood p o := fun k o ho => h.good k o (remF_ne ho).2
  have hd1 : ∀ k, remF ls H k ≠ none → p k := fun k hk => by
    cases hh : remF ls H k with
    | none => exact absurd hh hk
    | some o => exact h.dom k (by rw [(remF_ne hh).2]; simp)
  have hn1 : remF ls H n = some (.arr m xs) := by unfold remF; rw [if_neg hls]; exact hn
  have hvl : xv.cells.toList.length = ti.size := by simpa using hxl
  have hszd : i * m + j + xv.cells.toList.length ≤ cs.length := by omega
  have hheap := setCells_heap b Te fr xv.cells.toList (i * m + j) w cs hb (by omega)
  obtain ⟨m1, m2, m3, m4⟩ := setCells_meta b xv.cells.toList (i * m + j) w
  have hnl : ((lget xs i).take j ++ ds ++ (lget xs i).drop (j + ds.length)).length = m := by simp; omega
  obtain ⟨b1, b2⟩ := r1.upd (p := p) (w' := w.setCells b (i * m + j) xv.cells.toList) (n := n) (b := b) (o := .arr m xs) (o' := .arr m (xs.set i ((lget xs i).take j ++ ds ++ (lget xs i).drop (j + ds.length))))
    hn1 hl hg1 hd1 (fun k hk => setCells_other b _ _ w k hk) m1 (fun c T f hc => by
      rw [hb] at hc; cases hc
      exact ⟨⟨splice cs (i * m + j) xv.cells.toList⟩, Te, fr, hheap, by simp [splice]; omega⟩) (.inr ⟨m, xs, _, rfl, rfl, by simp⟩) (fun hc => by
      refine ⟨fun e he => ?_, by simpa using hmax, .inr ⟨b, ⟨splice cs (i * m + j) xv.cells.toList⟩, Te, fr, hl, hheap, fun k hk => ?_, ?_, fun i' e j' d' hi' hj' => ?_⟩⟩
      · rcases List.mem_or_eq_of_mem_set he with he | he
        · exact hm e he
        · rw [he]; exact hnl
      · have hk' : k < cs.length := by simp [splice] at hk; omega
        have hf0 := hfz k (by simpa using hk')
        simp only [World.frozen?, hb] at hf0
        simp only [World.frozen?, hheap]
        exact hf0
      · simp [splice]; omega
      · have hil : i' < xs.length := by have := (List.getElem?_eq_some_iff.1 hi').1; simpa using this
        have hjm : j' < m := by
          have := (List.getElem?_eq_some_iff.1 hj').1
          have he : e.length = m := by
            rcases List.mem_or_eq_of_mem_set (List.mem_of_getElem? hi') with he | he
            · exact hm e he
            · rw [he]; exact hnl
          omega
        have hsg := fun k => splice_get (l := cs) (off := i * m + j) (vs := xv.cells.toList) (k := k) (by omega)
        have hconv : (⟨splice cs (i * m + j) xv.cells.toList⟩ : Array Value)[i' * m + j']? = (splice cs (i * m + j) xv.cells.toList)[i' * m + j']? := by simp
        rw [hconv, hsg, hvl]
        by_cases he : i' = i
        · subst he
          rw [List.getElem?_set_self hil] at hi'
          cases hi'
          by_cases h3 : j' < j
          · rw [if_pos (by omega)]
            rw [List.append_assoc, List.getElem?_append_left (by simp; omega), List.getElem?_take, if_pos h3] at hj'
            obtain ⟨c, hc1, hc2⟩ := hel i' _ j' d' hxi hj'
            exact ⟨c, by simpa using hc1, (hc2.mono r2.hw r2.hok).mono hc.hw hc.hok⟩
          · rw [if_neg (by omega)]
            by_cases h4 : j' < j + ti.size
            · rw [if_pos (by omega)]
              rw [List.append_assoc, List.getElem?_append_right (by simp; omega), List.getElem?_append_left (by simp; omega)] at hj'
              have hjj : (List.take j (lget xs i')).length = j := by simp; omega
              rw [hjj] at hj'
              obtain ⟨c, hc1, hc2⟩ := hdv.get hj'
              exact ⟨c, by rw [show i' * m + j' - (i' * m + j) = j' - j by omega]; exact hc1, hc2.mono hc.hw hc.hok⟩
            · rw [if_neg (by omega)]
              rw [List.getElem?_append_right (by simp; omega), List.getElem?_drop] at hj'
              have hidx : j + ds.length + (j' - (List.take j (lget xs i') ++ ds).length) = j' := by simp; omega
              rw [hidx] at hj'
              obtain ⟨c, hc1, hc2⟩ := hel i' _ j' d' hxi hj'
              exact ⟨c, by simpa using hc1, (hc2.mono r2.hw r2.hok).mono hc.hw hc.hok⟩
        · rw [List.getElem?_set_ne (Ne.symm he)] at hi'
          obtain ⟨c, hc1, hc2⟩ := hel i' e j' d' hi' hj'
          have hout : i' * m + j' < i * m + j ∨ i * m + j + ti.size ≤ i' * m + j' := by
            rcases Nat.lt_or_gt_of_ne he with hlt | hgt
            · have : (i' + 1) * m ≤ i * m := Nat.mul_le_mul_right _ hlt
              rw [Nat.add_mul] at this
              left; omega
            · have : (i + 1) * m ≤ i' * m := Nat.mul_le_mul_right _ hgt
              rw [Nat.add_mul] at this
              right; omega
          refine ⟨c, ?_, (hc2.mono r2.hw r2.hok).mono hc.hw hc.hok⟩
          have hc1' : cs[i' * m + j']? = some c := by simpa using hc1
          rcases hout with ho | ho
          · rw [if_pos ho]; exact hc1'
          · rw [if_neg (by omega), if_neg (by omega)]; exact hc1')
  refine ⟨_, lam, okB ok lam H ls, hrun, ?_⟩
  rw [updF_append, updF_one, updF_rem]
  have hne : ∀ k, (if n = k then some (AObj.arr m (xs.set i ((lget xs i).take j ++ ds ++ (lget xs i).drop (j + ds.length)))) else remF ls H k) ≠ none → H k ≠ none := fun k hk => by
    by_cases e : n = k
    · subst e; rw [hn]; simp
    · rw [if_neg e] at hk
      cases hh : remF ls H k with
      | none => exact absurd hh hk
      | some o => rw [(remF_ne hh).2]; simp
  refine ⟨⟨b1, fun k o ho => ?_, fun k hk => .inl (h.dom k (hne k hk)), fun c hc => ?_, fun k c hk hc => h.ownb k c (hne k hk) hc, by rw [m1]; exact h.size⟩, .d .und, .d _, ⟨m2, m3, m4, by rw [m1]; exact Nat.le_refl _, fun k hk hu => ?_, setCells_sized hb hszd⟩, fun y v hg hv => b2.v (r2.v hv hg) hg⟩
  · by_cases e : n = k
    · rw [if_pos e] at ho; cases ho; trivial
    · rw [if_neg e] at ho; exact (hg1 k o ho).mono fun _ h => .inl h
  · rcases hc with hc | ⟨k, _, hk1, hk2⟩
    · exact h.okb c hc
    · exact .inr (h.ownb k c hk1 hk2)
  · refine setCells_other b _ _ w k fun e => hu ?_
    subst e
    exact h.ownb n k (by rw [hn]; simp) hl

end
end Go.Rx
