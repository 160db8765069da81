/-
  Part of the proof that the abstract evaluator is right about the model's run; each lemma names its conditions.
-/
import Derived.Test.YtedopmfciabdcaaRxSound13
namespace Go.Rx
open Go Go.RowKit

section
variable {P : Program} {T : Tys} {okIn U : Nat → Prop} {w0 : World} {p : Nat → Prop} {w w' : World} {ok ok' : Nat → Prop} {lam lam' : Nat → Option Nat} {H H' : Heap} {v0 : V} {u0 : Upd} {cv : Value}

theorem zeroD_rel : ∀ {zs : List Z} {vs : List Value}, Rel2 Z.rel zs vs → Rel2 (fun d v => ∀ w ok, DRel w ok d v) (zeroD zs) vs := by
  intro zs
  induction zs with
  | nil => intro vs h; rw [h.nil_left]; exact Rel2.nil _
  | cons z zs ih =>
    intro vs h
    obtain ⟨v, m, rfl, hv, hm⟩ := h.uncons
    cases z with
    | d x => exact Rel2.cons hv (ih hm)
    | nils m' => exact Rel2.cons (fun w ok => by have : v = .slice none 0 0 := hv; subst this; exact .sl0 _ _) (ih hm)

theorem zeroD_length (zs : List Z) : (zeroD zs).length = zs.length := by
  induction zs with
  | nil => rfl
  | cons z zs ih => cases z <;> simp [zeroD, ih]

theorem make_eff (hT : TyOK P T) (h : Ctx okIn U w0 p w ok lam H) {tb : Nat} (hf : Fresh p tb) {t : Nat} {ti : TI} (hti : (elemT T t).bind T = some ti) {l c : V} {lv cvv : Value}
    (hl : VRel w ok lam H l lv) (hc : VRel w ok lam H c cvv) (hv : makeVC tb ti l c (eqK v0 u0)) : Does P okIn U w0 p tb w ok lam H v0 u0 (Instr.makeSlice t lv cvv) := by
  unfold makeVC at hv
  split at hv
  · rename_i k n k' n'
    obtain ⟨rfl, h0, h1, h2, h3, rfl, rfl⟩ := hv
    cases hl.inv_d
    cases hc.inv_d
    obtain ⟨e, it, info, de, ze, infoe, z2, ht, hTe, hte⟩ := elemT_at hT hti
    have hb : (infoe.bytes : Int) * n ≤ 281474976710656 := by
      rw [hte.bytes]
      have : (ti.bytes : Int) * n ≤ 4096 * 4294967296 := Int.mul_le_mul (by omega) (by omega) h0 (by omega)
      omega
    have hrun := run_make (P := P) w t e infoe ze ht.und hte.inf hte.zero k k' n n h0 (Int.le_refl _) hb (by omega)
    rw [hte.size] at hrun
    have hzl : ze.cells.size = ti.size := by have := hte.zrel.1; rw [h3] at this; simpa using this.symm
    have hzd := zeroD_rel hte.zrel
    obtain ⟨lam', ok', he⟩ := newArr_eff (w' := w.alloc (.cells (madeCells ze.cells (n.toNat * ti.size)) e)) h hf [] (m := ti.size) (len := n.toNat) (cap := n.toNat) (xs := List.replicate n.toNat (zeroD ti.zero))
      (cs := madeCells ze.cells (n.toNat * ti.size)) (Te := e) (fr := (0, 0)) (fun b hb => heap_alloc_old w _ b hb) (by simp) ⟨rfl, rfl, rfl⟩ (heap_alloc_new w _) (fun i _ => by simp)
      (fun x hx => by rw [List.eq_of_mem_replicate hx, zeroD_length, h3]) (by simp [MAX]; omega) (by simp) (Nat.le_refl _) (by simp [size_madeCells]) (by simp [size_madeCells]) (fun i x j d hi hj => by
        have hlt : i < n.toNat := by have := (List.getElem?_eq_some_iff.1 hi).1; simpa using this
        have hx : x = zeroD ti.zero := List.eq_of_mem_replicate (List.mem_of_getElem? hi)
        subst hx
        obtain ⟨c, hc, hd⟩ := hzd.get hj
        have hjl : j < ti.size := by have := (List.getElem?_eq_some_iff.1 hj).1; rw [zeroD_length, h3] at this; exact this
        refine ⟨c, ?_, hd _ _⟩
        have hb : i * ti.size + j < n.toNat * ti.size := by
          have : (i + 1) * ti.size ≤ n.toNat * ti.size := Nat.mul_le_mul_right _ hlt
          rw [Nat.add_mul] at this
          omega
        simp only [madeCells]
        rw [Array.getElem?_map, Array.getElem?_range, if_pos hb]
        simp only [Option.map_some]
        have hmod : (i * ti.size + j) % ze.cells.size = j := by rw [hzl, Nat.mul_comm, Nat.mul_add_mod]; exact Nat.mod_eq_of_lt hjl
        rw [hmod]
        have hjz : j < ze.cells.size := by omega
        simp at hc
        rw [getElem!_pos ze.cells j hjz]
        rw [Array.getElem?_eq_getElem hjz] at hc
        exact hc)
    exact ⟨_, _, lam', ok', hrun, he⟩
  · exact hv.elim

theorem strBytes_eff (h : Ctx okIn U w0 p w ok lam H) {tb : Nat} (hf : Fresh p tb) {src dst e : Nat} {s : List UInt8} (hsl : s.length ≤ MAX) (hs : P.underlying src = some .string) (hd : P.underlying dst = some (.slice e)) (he : P.underlying e = some (.int .u8)) :
    Does P okIn U w0 p tb w ok lam H (.own tb 0 s.length) [(tb, some (.arr 1 (s.map byteCell)))] (convert src dst (.string ⟨⟨s⟩⟩)) := by
  have hrun := run_bytes_of_string (P := P) w src dst e ⟨⟨s⟩⟩ hs hd he
  simp only [size_mk] at hrun
  have hge := grownCap_ge w s.length 0 e
  generalize hcap : grownCap w s.length 0 e = cap at *
  have hrow : (bytesRow ⟨⟨s⟩⟩ cap).size = cap := by simp [bytesRow, size_mk]; omega
  obtain ⟨lam', ok', hE⟩ := newArr_eff (w' := w.drew.alloc (.cells (bytesRow ⟨⟨s⟩⟩ cap) e ((bytesRow ⟨⟨s⟩⟩ cap).size, (bytesRow ⟨⟨s⟩⟩ cap).size + 1))) h hf [] (m := 1) (len := s.length) (cap := cap) (xs := s.map byteCell)
    (cs := bytesRow ⟨⟨s⟩⟩ cap) (Te := e) (fr := ((bytesRow ⟨⟨s⟩⟩ cap).size, (bytesRow ⟨⟨s⟩⟩ cap).size + 1)) (fun b hb => heap_alloc_old w.drew _ b hb) (by simp) ⟨rfl, rfl, rfl⟩ (heap_alloc_new w.drew _)
    (fun i hi => by
      have hnew : (w.drew.alloc (.cells (bytesRow ⟨⟨s⟩⟩ cap) e ((bytesRow ⟨⟨s⟩⟩ cap).size, (bytesRow ⟨⟨s⟩⟩ cap).size + 1))).heap[w.heap.size]? = _ := heap_alloc_new w.drew _
      simp only [World.frozen?, hnew]
      simp
      omega)
    (fun x hx => by obtain ⟨b, _, rfl⟩ := List.mem_map.1 hx; rfl) (by simpa using hsl) (by simp) (by omega) (by omega) (by simp; omega) (fun i x j d hi hj => by
      rw [List.getElem?_map] at hi
      cases hx : s[i]? with
      | none => simp [hx] at hi
      | some b =>
        simp [hx] at hi; subst hi
        have hj0 : j = 0 := by have := (List.getElem?_eq_some_iff.1 hj).1; simp [byteCell] at this; omega
        subst hj0
        simp [byteCell] at hj; subst hj
        have hlt := (List.getElem?_eq_some_iff.1 hx).1
        refine ⟨.int .u8 b.toNat, ?_, .int _ _⟩
        simp only [bytesRow, Nat.mul_one, Nat.add_zero]
        rw [Array.getElem?_append_left (by simpa using hlt)]
        simp [hx])
  exact ⟨_, _, lam', ok', hrun, hE⟩

/-! ### stores -/

theorem store_run {t b off : Nat} {i : TI} {info : TypeInfo} {d : TypeDesc} {z : Value} (ht : TyAt P t i info d z) {xv : Value} {cs : List Value} {Te : TypeId} {fr : Nat × Nat}
    (hsz : xv.cells.size = i.size) (hb : w.heap[b]? = some (.cells ⟨cs⟩ Te fr)) (hle : off + i.size ≤ cs.length) (hfz : ∀ i, i < cs.length → w.frozen? ⟨b, i, none⟩ = false) (h1 : ∀ v ∈ xv.cells.toList, v.oneCell' = true) :
    (Instr.storeAt t (.pointer (some ⟨b, off, none⟩)) xv).run P w = .ok () (w.setCells b off xv.cells.toList) := by
  have hl : xv.cells.toList.length = i.size := by simpa using hsz
  have := run_storeCells_cells (P := P) b off xv.cells.toList 0 w (fun j hj => by
      rw [cell_of_row w b _ ⟨cs⟩ Te fr hb]
      simp; omega) (fun j hj => hfz _ (by omega)) h1
  simp only [Nat.add_zero] at this
  simp [Instr.storeAt, Instr.sureAddr, storeVar, ht.run_sizeOf, hsz, this]

theorem storeRef_eff (hT : TyOK P T) (h : Ctx okIn U w0 p w ok lam H) {tb : Nat} (hf : Fresh p tb) {t n off : Nat} {ti : TI} (hTt : T t = some ti) {vs : List V} {x : V} {ptv xv : Value}
    (hx : VRel w ok lam H x xv) (hxc : x.cells = some vs) (hvg : ∀ v ∈ vs, VGood p v) (hlen : vs.length = ti.size) (hsm : ti.size ≤ 900) (hone : (vs.all V.one) = true) (hp : VRel w ok lam H (.ref n off) ptv)
    {cells : List V} (hn : H n = some (.box cells)) (hle : off + ti.size ≤ cells.length) :
    ∃ w' lam' ok', (Instr.storeAt t ptv xv).run P w = .ok () w' ∧
      Eff okIn U w0 p (pX p tb) w ok lam H (.d .und) (updF ((mkBox tb 0 vs ti.zero).2 ++ [(n, some (.box (setAt cells off (mkBox tb 0 vs ti.zero).1)))]) H) w' undef lam' ok' := by
  obtain ⟨info, d, z, ht⟩ := hT t ti hTt
  have hxv := V.cells_sound hx hxc
  obtain ⟨b, cs, Te, hl, hb, hrel, _⟩ := box_range (off := off) h.hok hn
  cases hp with | ref _ hp =>
  obtain ⟨b', hb', rfl⟩ := hp _ hn
  obtain rfl : b = b' := by rw [hl] at hb'; exact Option.some.inj hb'
  have hcl : cells.length = cs.length := hrel.1
  have hxl : xv.cells.size = ti.size := by have := hxv.1; simp at this; omega
  have hfz : ∀ i, i < cs.length → w.frozen? ⟨b, i, none⟩ = false := fun i _ => frozen_of_row w b i ⟨cs⟩ Te hb
  have h1 : ∀ v ∈ xv.cells.toList, v.oneCell' = true := fun v hv => by
    obtain ⟨i, hi, rfl⟩ := List.mem_iff_getElem.1 hv
    obtain ⟨y, hy, hr⟩ := hxv.get' (List.getElem?_eq_getElem hi)
    exact hr.one (List.all_eq_true.1 hone y (List.mem_of_getElem? hy))
  have hrun := store_run (P := P) (w := w) (off := off) ht hxl hb (by omega) hfz h1
  have hpn : p n := h.dom n (by rw [hn]; simp)
  obtain ⟨lam1, a1, a2, a3, a4, a5, a6, a7, a8⟩ := mkBox_sound (tb := tb) vs xv.cells.toList ti.zero 0 p lam H h.hok h.good h.dom (fun j _ hj => hf _ (by omega) (by omega)) hxv hvg
  have hq : ∀ k, (p k ∨ tb + 1 + 0 ≤ k ∧ k < tb + 1 + 0 + vs.length) → pX p tb k := fun k hk => by
    rcases hk with hk | hk
    · exact .inl hk
    · exact .inr ⟨by omega, by omega⟩
  obtain ⟨e1, e2⟩ := a8 n hpn
  have hheap := setCells_heap b Te (0, 0) xv.cells.toList off w cs hb (by have := hxv.1; omega)
  obtain ⟨m1, m2, m3, m4⟩ := setCells_meta b xv.cells.toList off w
  obtain ⟨b1, b2⟩ := a1.upd (p := fun k => p k ∨ tb + 1 + 0 ≤ k ∧ k < tb + 1 + 0 + vs.length) (w' := w.setCells b off xv.cells.toList) (n := n) (b := b) (o := .box cells) (o' := .box (setAt cells off (mkBox tb 0 vs ti.zero).1))
    (e1.trans hn) (e2.trans hl) a5 a6 (fun k hk => setCells_other b _ off w k hk) m1 (fun c T f hc => by
      rw [hb] at hc; cases hc
      exact ⟨⟨splice cs off xv.cells.toList⟩, Te, (0, 0), hheap, by simp [splice]; omega⟩) (.inl ⟨_, _, rfl, rfl⟩) (fun hc => by
      refine ⟨b, ⟨splice cs off xv.cells.toList⟩, Te, e2.trans hl, hheap, ?_, fun i v c hv hcc => ?_⟩
      · have := (hrel.splice hxv off).1
        have l2 : (mkBox tb 0 vs ti.zero).1.length = vs.length := by rw [a3.1, hxv.1]
        simp [setAt, splice, l2] at this ⊢
        omega
      · have hspl : Rel2 (VRel (w.setCells b off xv.cells.toList) ok lam1 (fun k => if n = k then some (.box (setAt cells off (mkBox tb 0 vs ti.zero).1)) else updF (mkBox tb 0 vs ti.zero).2 H k)) (setAt cells off (mkBox tb 0 vs ti.zero).1) (splice cs off xv.cells.toList) := by
          rw [setAt_splice]
          refine Rel2.splice (hrel.mono fun y c hy hr => hc.v (a2.v hr (h.good n _ hn y hy)) ((h.good n _ hn y hy).mono fun _ h => .inl h)) (a3.mono fun y c hy hr => hc.v hr (a4 y hy)) off
        exact hspl.2 i v c hv (by simpa using hcc))
  refine ⟨_, lam1, ok, hrun, ?_⟩
  rw [updF_append, updF_one]
  refine ⟨⟨b1, fun k o ho => ?_, fun k hk => ?_, h.okb, fun k c hk hc => ?_, by rw [m1]; exact h.size⟩, .d .und, .d _, ⟨m2, m3, m4, by rw [m1]; exact Nat.le_refl _, fun k hk hu => ?_, setCells_sized hb (by have := hxv.1; omega)⟩, fun y v hg hv => b2.v (a2.v hv hg) (hg.mono fun _ h => .inl h)⟩
  · by_cases e : n = k
    · rw [if_pos e] at ho; cases ho
      intro v hv
      simp only [setAt, List.mem_append] at hv
      rcases hv with (hv | hv) | hv
      · exact (h.good n _ hn v (List.mem_of_mem_take hv)).mono fun _ h => .inl h
      · exact (a4 v hv).mono hq
      · exact (h.good n _ hn v (List.mem_of_mem_drop hv)).mono fun _ h => .inl h
    · rw [if_neg e] at ho; exact (a5 k o ho).mono hq
  · by_cases e : n = k
    · subst e; exact .inl hpn
    · rw [if_neg e] at hk; exact hq k (a6 k hk)
  · by_cases e : n = k
    · subst e; rw [e2] at hc; exact h.ownb n c (by rw [hn]; simp) hc
    · rw [if_neg e] at hk
      obtain ⟨k1, k2⟩ := a7 k c hk hc
      exact h.ownb k c k1 k2
  · refine setCells_other b _ off w k fun e => hu ?_
    subst e
    exact h.ownb n k (by rw [hn]; simp) hl

end
end Go.Rx
