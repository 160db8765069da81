/-
  Part of the proof that the abstract evaluator is right about the model's run; each lemma names its conditions.
-/
import Derived.Test.YtedopmfciabdcaaRxSound15
namespace Go.Rx
open Go Go.RowKit

section
variable {P : Program} {T : Tys} {okIn U : Nat → Prop} {w0 : World} {p : Nat → Prop} {w w' : World} {ok ok' : Nat → Prop} {lam lam' : Nat → Option Nat} {H H' : Heap} {v0 : V} {u0 : Upd} {cv : Value}

theorem srcTy_kind (hT : TyOK P T) {tx : Nat} (h : srcTy T (some tx) = true) : (∃ e', P.underlying tx = some (.slice e')) ∨ P.underlying tx = some .string := by
  simp only [srcTy, Bool.or_eq_true] at h
  rcases h with h | h
  · exact .inl (isSl_und hT h)
  · exact .inr (isStr_und hT h)

theorem src_nil (hT : TyOK P T) {size tx : Nat} {A : Option Addr} {c : Nat} (htx : srcTy T (some tx) = true) : Src P size tx (.slice A 0 c) 0 [] w := by
  refine ⟨srcTy_kind hT htx, fun _ => rfl, ?_, ?_, by simp, by simp⟩
  · cases A with
    | none => rfl
    | some a => exact run_firstCells_some w size 0 a 0 c [] (by simp) (by simp)
  · cases A with
    | none => rfl
    | some a => exact run_firstCells_some w.drew size 0 a 0 c [] (by simp) (by simp)

theorem src_raw (hT : TyOK P T) {ys : List (List D)} {size tx b o cap : Nat} {g : Nat → Value} (hs : ∀ c ∈ ys, c.length = size) (hone : ∀ c ∈ ys, ∀ d ∈ c, d.one = true) (htx : srcTy T (some tx) = true)
    (hv : ∀ (i : Nat) e (j : Nat) d, ys[i]? = some e → e[j]? = some d → w.cell? ⟨b, o + (i * size + j), none⟩ = some (g (i * size + j)))
    (hd : ∀ (i : Nat) e (j : Nat) d, ys[i]? = some e → e[j]? = some d → DRel w ok d (g (i * size + j))) :
    ∃ news, Src P size tx (.slice (some ⟨b, o, none⟩) ys.length cap) ys.length news w ∧ ∀ (i : Nat) e (j : Nat) d, ys[i]? = some e → e[j]? = some d → ∃ c, news[i * size + j]? = some c ∧ DRel w ok d c := by
  have hk := srcTy_kind hT htx
  have at_ : ∀ k, k < ys.length * size → ∃ e d, ys[k / size]? = some e ∧ e[k % size]? = some d ∧ k = k / size * size + k % size := by
    intro k hk
    have hpos : 0 < size := by
      rcases Nat.eq_zero_or_pos size with h0 | h0
      · subst h0; simp at hk
      · exact h0
    have h1 : k / size < ys.length := Nat.div_lt_of_lt_mul (by rw [Nat.mul_comm]; exact hk)
    have h2 : k % size < size := Nat.mod_lt _ hpos
    have he : ys[k / size]? = some ys[k / size] := List.getElem?_eq_getElem h1
    have hel := hs _ (List.mem_of_getElem? he)
    exact ⟨_, ys[k / size][k % size], he, List.getElem?_eq_getElem (by omega), by rw [Nat.mul_comm]; exact (Nat.div_add_mod k size).symm⟩
  have hcell : ∀ (w2 : World), (∀ a, w2.cell? a = w.cell? a) → ∀ (j : Nat) v, ((List.range (ys.length * size)).map g)[j]? = some v → w2.cell? ((⟨b, o, none⟩ : Addr).add j) = some v := by
    intro w2 hw2 j v hj
    have hjl : j < ys.length * size := by have := (List.getElem?_eq_some_iff.1 hj).1; simpa using this
    simp [hjl] at hj
    obtain ⟨e, d, h1, h2, h4⟩ := at_ j hjl
    rw [hw2, Addr.add_mid]
    have := hv _ e _ d h1 h2
    rw [← h4] at this
    rw [this, hj]
  refine ⟨(List.range (ys.length * size)).map g, ⟨hk, fun _ => rfl, run_firstCells_some w size ys.length ⟨b, o, none⟩ _ cap _ (by simp) (hcell w fun _ => rfl), run_firstCells_some w.drew size ys.length ⟨b, o, none⟩ _ cap _ (by simp) (hcell w.drew fun _ => rfl), by simp, ?_⟩, ?_⟩
  · intro u hu
    obtain ⟨k, hk1, rfl⟩ := List.mem_map.1 hu
    have hkl : k < ys.length * size := by simpa using hk1
    obtain ⟨e, d, h1, h2, h4⟩ := at_ k hkl
    have := hd _ e _ d h1 h2
    rw [← h4] at this
    exact this.one (hone e (List.mem_of_getElem? h1) d (List.mem_of_getElem? h2))
  · intro i e j d hi hj
    have hel := hs e (List.mem_of_getElem? hi)
    have hil := (List.getElem?_eq_some_iff.1 hi).1
    have hjl := (List.getElem?_eq_some_iff.1 hj).1
    have hin : (i + 1) * size ≤ ys.length * size := Nat.mul_le_mul_right _ hil
    rw [Nat.add_mul] at hin
    refine ⟨g (i * size + j), ?_, hd i e j d hi hj⟩
    have hlt : i * size + j < ys.length * size := by omega
    simp [hlt]

/-- What is appended, read out of a value. -/
theorem src_of (hT : TyOK P T) (hk : HOK w ok lam H) {x : V} {xv : Value} {ys : List (List D)} {size tx : Nat} (hx : VRel w ok lam H x xv) (hy : slOf (toD H x) = some ys)
    (hs : ∀ c ∈ ys, c.length = size) (hone : ∀ c ∈ ys, ∀ d ∈ c, d.one = true) (htx : srcTy T (some tx) = true) :
    ∃ news, Src P size tx xv ys.length news w ∧ ∀ (i : Nat) e (j : Nat) d, ys[i]? = some e → e[j]? = some d → ∃ c, news[i * size + j]? = some c ∧ DRel w ok d c := by
  cases x with
  | d y =>
    simp only [toD, cD] at hy
    cases y with
    | sl zs =>
      simp [slOf] at hy
      subst hy
      cases hx.inv_d with
      | sl0 A c => exact ⟨[], src_nil hT htx, by simp⟩
      | sl _ m b o cap g hc hm hb hl hv hd =>
        rcases zs with _ | ⟨z, zs⟩
        · exact ⟨[], src_nil hT htx, by simp⟩
        · have hms : m = size := (hl z List.mem_cons_self).symm.trans (hs z List.mem_cons_self)
          subst hms
          exact src_raw hT hs hone htx hv hd
    | _ => simp [slOf] at hy
  | nils => simp [toD, cD, slOf] at hy; subst hy; cases hx; exact ⟨[], src_nil hT htx, by simp⟩
  | own n off len =>
    simp only [toD, cD] at hy
    cases hn : H n with
    | none => simp [hn, slOf] at hy
    | some ob =>
      cases ob with
      | box c => simp [hn, slOf] at hy
      | arr m xs =>
        simp [hn, slOf] at hy
        subst hy
        cases hx with | own _ hx =>
        obtain ⟨hle, hc⟩ := hx m xs hn
        have hlen : ((xs.drop off).take len).length = len := by simp; omega
        rcases hc with ⟨_, rfl, rfl⟩ | ⟨b, o, cap, cs, Te, fr, g1, rfl, g3, g4, g5, g6⟩
        · simp; exact ⟨[], src_nil hT htx⟩
        · obtain ⟨hm, hmax, hobj⟩ := hk.obj n _ hn
          rcases hobj with ⟨hz, _⟩ | ⟨b', cs', Te', fr', k1, k2, k3, k4, k5⟩
          · rw [g1] at hz; cases hz
          · obtain rfl : b = b' := by rw [g1] at k1; exact Option.some.inj k1
            by_cases hz : len = 0
            · subst hz; simp; exact ⟨[], src_nil hT htx⟩
            · have ho : o = off * m := g4.resolve_left (by omega)
              have hms : m = size := by
                have hne : 0 < ((xs.drop off).take len).length := by omega
                have hmem := List.getElem_mem hne
                rw [← hs _ hmem]
                exact (hm _ (List.mem_of_mem_drop (List.mem_of_mem_take hmem))).symm
              subst hms
              have hget : ∀ (i : Nat) e, ((xs.drop off).take len)[i]? = some e → xs[off + i]? = some e := by
                intro i e he
                rw [List.getElem?_take] at he
                split at he
                · rwa [List.getElem?_drop] at he
                · simp at he
              have := src_raw (w := w) (ok := ok) hT (b := b) (o := o) (cap := cap) (g := fun k => cs'.getD (off * m + k) undef) hs hone htx (fun i e j d hi hj => by
                  obtain ⟨c, hc, _⟩ := k5 (off + i) e j d (hget i e hi) hj
                  rw [Nat.add_mul, Nat.add_assoc] at hc
                  rw [ho, cell_of_row w b _ cs' Te' fr' k2, hc]
                  simp [Array.getD_eq_getD_getElem?, hc]) (fun i e j d hi hj => by
                  obtain ⟨c, hc, hd⟩ := k5 (off + i) e j d (hget i e hi) hj
                  rw [Nat.add_mul, Nat.add_assoc] at hc
                  simp only [Array.getD_eq_getD_getElem?, hc, Option.getD_some]
                  exact hd)
              rw [hlen] at this ⊢
              exact this
  | agg vs => simp only [toD] at hy; cases hc : cDs H vs with
    | none => simp [hc, slOf] at hy
    | some p => simp [hc, slOf] at hy
  | clo f vs => simp only [toD] at hy; cases hc : toPs H vs with
    | none => simp [hc, slOf] at hy
    | some p => simp [hc, slOf] at hy
  | _ => simp [toD, cD, slOf] at hy

/-- The array of a name is written behind its elements, and gets a new name. -/
theorem reuse_eff (h : Ctx okIn U w0 p w ok lam H) {tb : Nat} (hf : Fresh p tb) {n b m len cap : Nat} {xs xs' : List (List D)} {o : Nat} {cs cs' : Array Value} {Te : TypeId} {fr : Nat × Nat}
    (hn : H n = some (.arr m xs)) (hl : lam n = some b) (hb : w.heap[b]? = some (.cells cs Te fr)) (hb' : w'.heap[b]? = some (.cells cs' Te fr)) (hcs : cs'.size = cs.size) (hother : ∀ k, k ≠ b → w'.heap[k]? = w.heap[k]?) (hsz : w'.heap.size = w.heap.size)
    (hmeta : w'.os = w.os ∧ w'.tape = w.tape ∧ w'.output = w.output) (hm : ∀ e ∈ xs', e.length = m) (hmax : xs'.length ≤ MAX) (hlen : len ≤ xs'.length) (hcap : len ≤ cap) (ho : cap = 0 ∨ o = 0) (hcm : cap * m ≤ cs.size) (hxm : xs'.length * m ≤ cs.size)
    (hfz : ∀ i, i < cs.size → w.frozen? ⟨b, i, none⟩ = false)
    (hel : ∀ (i : Nat) e (j : Nat) d, xs'[i]? = some e → e[j]? = some d → ∃ c, cs'[i * m + j]? = some c ∧ DRel w ok d c) :
    Eff okIn U w0 p (pX p tb) w ok lam H (.own tb 0 len) (updF [(n, none), (tb, some (.arr m xs'))] H) w' (.slice (some ⟨b, o, none⟩) len cap) (fun k => if k = tb then some b else lam k) ok := by
  have hfr : ¬ p tb := hf tb (Nat.le_refl _) (by omega)
  have hpn : p n := h.dom n (by rw [hn]; simp)
  have hnt : n ≠ tb := fun e => hfr (e ▸ hpn)
  have hnb : ∀ c, ok c → c ≠ b := fun c hc e => h.hok.dis n b (by rw [hn]; simp) hl (e ▸ hc)
  let H' : Heap := fun k => if tb = k then some (.arr m xs') else if n = k then none else H k
  have hup : updF [(n, none), (tb, some (.arr m xs'))] H = H' := rfl
  have hne : ∀ a, a ≠ tb → H' a ≠ none → a ≠ n ∧ H a ≠ none ∧ H' a = H a := fun a ha hna => by
    simp only [H'] at hna ⊢
    rw [if_neg (Ne.symm ha)] at hna ⊢
    by_cases e : n = a
    · rw [if_pos e] at hna; simp at hna
    · rw [if_neg e] at hna ⊢; exact ⟨Ne.symm e, hna, rfl⟩
  have hpt : ∀ k, p k → k ≠ tb := fun k hk e => hfr (e ▸ hk)
  have hc : Chg p w ok lam H w' ok (fun k => if k = tb then some b else lam k) H' := by
    refine ⟨fun c hc => hother c (hnb c hc), fun _ h => h, fun k hk _ => by rw [if_neg (hpt k hk)], fun k hk c' hc' => ?_, fun k hk m' xs2 hc' => ?_, fun k c cs2 T2 fr2 m2 xs2 hk hna h1 h2 => ?_⟩
    · have := (hne k (hpt k hk) (by rw [hc']; simp)).2.2
      exact ⟨c', this ▸ hc'⟩
    · have := (hne k (hpt k hk) (by rw [hc']; simp)).2.2
      exact ⟨xs2, this ▸ hc', rfl⟩
    · have hcb : c ≠ b := fun e => (hne k (hpt k hk) (by rw [hna]; simp)).1 (h.hok.inj k n b (hne k (hpt k hk) (by rw [hna]; simp)).2.1 (by rw [hn]; simp) (e ▸ h1) hl)
      exact ⟨cs2, T2, fr2, by rw [hother c hcb]; exact h2, rfl⟩
  rw [hup]
  refine ⟨⟨⟨fun a c d ha hc' h1 h2 => ?_, fun a c ha h1 => ?_, fun a c ha h1 => ?_, fun c hc' => hsz ▸ h.hok.oklt c hc', fun a x ha => ?_⟩, fun a x ha => ?_, fun a ha => ?_, h.okb, fun a c ha h1 => ?_, by rw [hsz]; exact h.size⟩, ?_, .own pX_tb, ⟨hmeta.1, hmeta.2.1, hmeta.2.2, by rw [hsz]; exact Nat.le_refl _, fun k hk hu => ?_, sized_one hb' (fun c T f hc => by rw [hb] at hc; cases hc; exact hcs) (fun k _ hk => hother k hk)⟩, fun y v hg hv => hc.v hv hg⟩
  · by_cases e1 : a = tb
    · by_cases e2 : c = tb
      · rw [e1, e2]
      · rw [if_pos e1] at h1; rw [if_neg e2] at h2
        obtain ⟨k1, k2, _⟩ := hne c e2 hc'
        exact absurd (h.hok.inj c n d k2 (by rw [hn]; simp) h2 (h1 ▸ hl)) k1
    · by_cases e2 : c = tb
      · rw [if_pos e2] at h2; rw [if_neg e1] at h1
        obtain ⟨k1, k2, _⟩ := hne a e1 ha
        exact absurd (h.hok.inj a n d k2 (by rw [hn]; simp) h1 (h2 ▸ hl)) k1
      · rw [if_neg e1] at h1; rw [if_neg e2] at h2
        exact h.hok.inj a c d (hne a e1 ha).2.1 (hne c e2 hc').2.1 h1 h2
  · rw [hsz]
    by_cases e1 : a = tb
    · rw [if_pos e1] at h1; cases h1; exact h.hok.lt n b (by rw [hn]; simp) hl
    · rw [if_neg e1] at h1; exact h.hok.lt a c (hne a e1 ha).2.1 h1
  · by_cases e1 : a = tb
    · rw [if_pos e1] at h1; cases h1; exact fun hb => hnb b hb rfl
    · rw [if_neg e1] at h1; exact h.hok.dis a c (hne a e1 ha).2.1 h1
  · by_cases e1 : a = tb
    · subst e1
      simp only [H', if_true] at ha
      cases ha
      refine ⟨hm, hmax, .inr ⟨b, cs', Te, fr, by simp, hb', fun i hi => ?_, by omega, fun i e j d hi hj => ?_⟩⟩
      · have hf0 := hfz i (by omega)
        simp only [World.frozen?, hb] at hf0
        simp only [World.frozen?, hb']
        exact hf0
      · obtain ⟨c, h1, h2⟩ := hel i e j d hi hj
        exact ⟨c, h1, h2.mono hc.hw hc.hok⟩
    · obtain ⟨k1, k2, k3⟩ := hne a e1 (by rw [ha]; simp)
      have ha' : H a = some x := k3 ▸ ha
      exact ObjRel.chg hc (h.dom a k2) (by rw [ha]; simp) (h.good a x ha') (fun c hc' => hother c fun e => k1 (h.hok.inj a n b k2 (by rw [hn]; simp) (e ▸ hc') hl)) (h.hok.obj a x ha')
  · by_cases e1 : a = tb
    · subst e1; simp only [H', if_true] at ha; cases ha; trivial
    · obtain ⟨k1, k2, k3⟩ := hne a e1 (by rw [ha]; simp)
      exact (h.good a x (k3 ▸ ha)).mono fun _ h => .inl h
  · by_cases e1 : a = tb
    · rw [e1]; exact pX_tb
    · exact .inl (h.dom a (hne a e1 ha).2.1)
  · by_cases e1 : a = tb
    · rw [if_pos e1] at h1; cases h1; exact h.ownb n b (by rw [hn]; simp) hl
    · rw [if_neg e1] at h1; exact h.ownb a c (hne a e1 ha).2.1 h1
  · refine .own ⟨_, _, _, rfl⟩ fun m' xs2 hc' => ?_
    simp only [H', if_true] at hc'
    cases hc'
    exact ⟨by omega, .inr ⟨b, o, cap, cs', Te, fr, by simp, rfl, hcap, ho.imp id (fun e => by simp [e]), hb', by rw [hcs]; simpa using hcm⟩⟩
  · exact hother k fun e => hu (e ▸ h.ownb n b (by rw [hn]; simp) hl)

theorem nilArr_eff (h : Ctx okIn U w0 p w ok lam H) {tb m : Nat} (hf : Fresh p tb) (ls : List Nat) :
    ∃ lam' ok', Eff okIn U w0 p (pX p tb) w ok lam H (.own tb 0 0) (updF (ls.map (·, none) ++ [(tb, some (.arr m []))]) H) w (.slice none 0 0) lam' ok' := by
  obtain ⟨r1, r2⟩ := h.hok.rem (p := p) ls h.good h.dom
  have hc : Ctx okIn U w0 p w (okB ok lam H ls) lam (remF ls H) := ⟨r1, fun k o ho => h.good k o (remF_ne ho).2, fun k hk => by
    cases hh : remF ls H k with
    | none => exact absurd hh hk
    | some o => exact h.dom k (by rw [(remF_ne hh).2]; simp), fun c hc => by
      rcases hc with hc | ⟨k, _, hk1, hk2⟩
      · exact h.okb c hc
      · exact .inr (h.ownb k c hk1 hk2), fun k c hk hc => by
      cases hh : remF ls H k with
      | none => exact absurd hh hk
      | some o => exact h.ownb k c (by rw [(remF_ne hh).2]; simp) hc, h.size⟩
  obtain ⟨lam', ok', he⟩ := moveNil_eff (tb := tb) (m := m) hc hf
  rw [updF_append, updF_rem]
  exact ⟨lam', ok', ⟨he.ctx, he.val, he.vgood, he.fr, fun x v hg hv => he.stab x v hg (r2.v hv hg)⟩⟩

theorem append_nil_eff (h : Ctx okIn U w0 p w ok lam H) {tb : Nat} (hf : Fresh p tb) (ls : List Nat) {ty tx rty e : Nat} {it ti : TI} {info infoe : TypeInfo} {z2 ze : Value} {de : TypeDesc} (ht : TyAt P ty it info (.slice e) z2) (hte : TyAt P e ti infoe de ze)
    {xv : Value} {ys : List (List D)} {news : List Value} (hsrc : Src P ti.size tx xv ys.length news w)
    (hels : ∀ (i : Nat) x (j : Nat) d, ys[i]? = some x → x[j]? = some d → ∃ c, news[i * ti.size + j]? = some c ∧ DRel w ok d c) (hfit : fits ti ys.length ys) :
    Does P okIn U w0 p tb w ok lam H (.own tb 0 ys.length) (ls.map (·, none) ++ [(tb, some (.arr ti.size ys))]) (Builtin.append_ #[ty, tx] rty #[.slice none 0 0, xv]) := by
  obtain ⟨h0, h1, h2, h3, h4⟩ := hfit
  cases hys : ys with
  | nil =>
    subst hys
    obtain ⟨lam', ok', he⟩ := nilArr_eff (m := ti.size) h hf ls
    refine ⟨.slice none 0 0, w, lam', ok', ?_, he⟩
    have hcells : (Builtin.firstCells ti.size 0 xv).run P w = .ok news.toArray w := hsrc.cells
    rcases hsrc.kind with ⟨e', hk⟩ | hk <;> simp [Builtin.append_, ht.run_und, run_underlying hk, hte.run_sizeOf, hsrc.len, hcells]
  | cons y ys' =>
    rw [← hys]
    have hpos : 0 < ys.length := by rw [hys]; simp
    have hb : ys.length * infoe.bytes ≤ 140737488355328 := by
      rw [hte.bytes]
      have : ys.length * ti.bytes ≤ 4294967296 * 4096 := Nat.mul_le_mul h2 h1
      omega
    have hrun := run_append_grow_src (P := P) w ty tx rty e infoe ze ht.und hte.inf hte.zero none 0 0 [] (by rfl) xv ys.length news (hte.size ▸ hsrc) (by omega) (by omega) (growslice_fits (by omega) (by simpa using hb))
    simp only [Nat.zero_add, List.nil_append] at hrun
    have hge := grownCap_ge w ys.length 0 e
    generalize grownCap w ys.length 0 e = cap at hrun hge
    have hzl : ze.cells.size = ti.size := by have := hte.zrel.1; rw [h0] at this; simpa using this.symm
    have hnl := hsrc.newsLen
    have hsize : (news.toArray ++ Builtin.zeroCells ze.cells (cap - ys.length)).size = cap * ti.size := by
      simp only [Array.size_append, List.size_toArray, size_zeroCells, hzl, hnl, ← Nat.add_mul]
      congr 1; omega
    obtain ⟨lam', ok', he⟩ := newArr_eff (w' := w.drew.alloc (.cells (news.toArray ++ Builtin.zeroCells ze.cells (cap - ys.length)) e)) h hf ls (m := ti.size) (len := ys.length) (cap := cap) (xs := ys)
      (cs := news.toArray ++ Builtin.zeroCells ze.cells (cap - ys.length)) (Te := e) (fr := (0, 0)) (fun b hb => heap_alloc_old w.drew _ b hb) (by simp) ⟨rfl, rfl, rfl⟩ (heap_alloc_new w.drew _)
      (fun i _ => frozen_of_row _ _ i _ e (heap_alloc_new w.drew _)) h3 (by unfold MAX; omega) (Nat.le_refl _) hge (by omega) (by rw [hsize]; exact Nat.mul_le_mul_right _ hge) (fun i x j d hi hj => by
        obtain ⟨c, hc, hd⟩ := hels i x j d hi hj
        have hlt := (List.getElem?_eq_some_iff.1 hc).1
        refine ⟨c, ?_, hd.mono (fun _ _ => rfl) fun b hb => .inl hb⟩
        rw [Array.getElem?_append_left (by simpa using hlt)]
        simpa using hc)
    exact ⟨_, _, lam', ok', hrun, he⟩

theorem appTo_eff (hT : TyOK P T) (h : Ctx okIn U w0 p w ok lam H) {tb : Nat} (hf : Fresh p tb) {ty tx rty e : Nat} {it ti : TI} {info infoe : TypeInfo} {z2 ze : Value} {de : TypeDesc} (ht : TyAt P ty it info (.slice e) z2) (hte : TyAt P e ti infoe de ze)
    {s x : V} {sv xv : Value} {ys : List (List D)} (hs : VRel w ok lam H s sv) (hx : VRel w ok lam H x xv) (hy : slOf (toD H x) = some ys) (htx : srcTy T (some tx) = true) (hv : appTo H tb ti s ys (eqK v0 u0)) :
    Does P okIn U w0 p tb w ok lam H v0 u0 (Builtin.append_ #[ty, tx] rty #[sv, xv]) := by
  cases s with
  | ref => simp [appTo] at hv
  | el => simp [appTo] at hv
  | d => simp [appTo] at hv
  | agg => simp [appTo] at hv
  | tup => simp [appTo] at hv
  | clo => simp [appTo] at hv
  | dead => simp [appTo] at hv
  | own n off len =>
    cases off with
    | succ off => simp [appTo] at hv
    | zero =>
    simp only [appTo] at hv
    cases hn : H n with
    | none => simp [hn, onArr] at hv
    | some ob =>
      cases ob with
      | box c => simp [hn, onArr] at hv
      | arr m xs =>
        simp only [hn, onArr] at hv
        obtain ⟨rfl, ⟨h0, h1, h2, h3, h4⟩, rfl, rfl⟩ := hv
        obtain ⟨news, hsrc, hels⟩ := src_of hT h.hok hx hy h3 h4 htx
        obtain ⟨hm, hmax, hobj⟩ := h.hok.obj n _ hn
        have hnl := hsrc.newsLen
        have hzl : ze.cells.size = ti.size := by have := hte.zrel.1; rw [h0] at this; simpa using this.symm
        cases hs with | own _ hs =>
        obtain ⟨hle, hc⟩ := hs _ xs hn
        have htl : (xs.take len).length = len := by simp; omega
        have hget : ∀ (i : Nat) x (j : Nat) d, (xs.take len ++ ys)[i]? = some x → x[j]? = some d → (i < len ∧ xs[i]? = some x) ∨ (len ≤ i ∧ ys[i - len]? = some x) := fun i x j d hi hj => by
          by_cases hlt : i < len
          · rw [List.getElem?_append_left (by omega), List.getElem?_take, if_pos hlt] at hi; exact .inl ⟨hlt, hi⟩
          · rw [List.getElem?_append_right (by omega), htl] at hi; exact .inr ⟨by omega, hi⟩
        have hmem : ∀ x ∈ xs.take len ++ ys, x.length = ti.size := fun x hx => by
          rcases List.mem_append.1 hx with hx | hx
          · exact hm x (List.mem_of_mem_take hx)
          · exact h3 x hx
        rcases hc with ⟨hln, rfl, rfl⟩ | ⟨b, o, cap, cs, Te, fr, g1, rfl, g3, g4, g5, g6⟩
        · have := append_nil_eff h hf [n] ht hte (rty := rty) hsrc hels ⟨h0, h1, by omega, h3, h4⟩
          simpa using this
        · rcases hobj with ⟨hz, _⟩ | ⟨b', cs', Te', fr', k1, k2, k3, k4, k5⟩
          · rw [g1] at hz; cases hz
          obtain rfl : b = b' := by rw [g1] at k1; exact Option.some.inj k1
          rw [g5] at k2; cases k2
          have hcellx : ∀ (i : Nat) x (j : Nat) d, xs[i]? = some x → x[j]? = some d → ∃ c, cs[i * ti.size + j]? = some c ∧ DRel w ok d c := k5
          by_cases hroom : len + ys.length ≤ cap
          · have hcapm : (len + ys.length) * ti.size ≤ cap * ti.size := Nat.mul_le_mul_right _ hroom
            rw [Nat.add_mul] at hcapm
            have g6' : cap * ti.size ≤ cs.size := by simpa using g6
            have hoz : cap = 0 ∨ o = 0 := g4.imp id (fun e => by simpa using e)
            have hin : cap = 0 → len = 0 ∧ ys.length = 0 := fun hz => by omega
            have hoff : ∀ j, j < news.length → o + len * ti.size + j < cs.size := fun j hj => by
              rcases hoz with hz | hz
              · obtain ⟨e1, e2⟩ := hin hz; rw [hnl, e2] at hj; simp at hj
              · subst hz; omega
            have hrun := run_append_room_src (P := P) w ty tx rty e infoe ht.und hte.inf b o len cap xv ys.length news (hte.size ▸ hsrc) hroom
              (fun j hj => by rw [hte.size, cell_of_row w b _ cs Te fr g5]; have := hoff j hj; simp [this]) (fun j hj => by rw [hte.size]; exact k3 _ (hoff j hj))
            rw [hte.size] at hrun
            obtain ⟨m1, m2, m3, m4⟩ := setCells_meta b news (o + len * ti.size) w
            have hnews0 : cap = 0 → news = [] := fun hz => List.eq_nil_of_length_eq_zero (by rw [hnl, (hin hz).2]; simp)
            obtain ⟨⟨csl⟩, hcsl⟩ : ∃ l, l = cs := ⟨cs, rfl⟩
            have hheap : (w.setCells b (o + len * ti.size) news).heap[b]? = some (.cells ⟨if cap = 0 then csl else splice csl (len * ti.size) news⟩ Te fr) := by
              by_cases hz : cap = 0
              · rw [hnews0 hz, if_pos hz, hcsl]; exact g5
              · have ho : o = 0 := hoz.resolve_left hz
                subst ho
                rw [if_neg hz, Nat.zero_add]
                refine setCells_heap b Te fr news (len * ti.size) w csl (by rw [hcsl]; exact g5) ?_
                have : csl.length = cs.size := by rw [← hcsl]; simp
                omega
            have hcl : csl.length = cs.size := by rw [← hcsl]; simp
            have hE := reuse_eff (w' := w.setCells b (o + len * ti.size) news) h hf (n := n) (b := b) (m := ti.size) (len := len + ys.length) (cap := cap) (xs := xs) (xs' := xs.take len ++ ys) (o := o) hn g1 g5 hheap
              (by by_cases hz : cap = 0
                  · rw [if_pos hz]; simpa using hcl
                  · rw [if_neg hz]; simp [splice]; omega) (fun k hk => setCells_other b _ _ w k hk) m1 ⟨m2, m3, m4⟩ hmem (by simp [MAX]; omega) (by simp; omega) hroom hoz g6' (by simp; rw [Nat.min_eq_left (by omega), Nat.add_mul]; omega) k3
              (fun i x j d hi hj => by
                have hjl := (List.getElem?_eq_some_iff.1 hj).1
                rw [hmem x (List.mem_of_getElem? hi)] at hjl
                have hil := (List.getElem?_eq_some_iff.1 hi).1
                simp at hil
                have hz : ¬ cap = 0 := fun hz => by obtain ⟨e1, e2⟩ := hin hz; omega
                rw [if_neg hz]
                have hsg := splice_get (l := csl) (off := len * ti.size) (vs := news) (k := i * ti.size + j) (by omega)
                have hconv : (⟨splice csl (len * ti.size) news⟩ : Array Value)[i * ti.size + j]? = (splice csl (len * ti.size) news)[i * ti.size + j]? := by simp
                rw [hconv, hsg]
                rcases hget i x j d hi hj with ⟨hlt, hx⟩ | ⟨hge, hx⟩
                · have hb : (i + 1) * ti.size ≤ len * ti.size := Nat.mul_le_mul_right _ hlt
                  rw [Nat.add_mul] at hb
                  rw [if_pos (by omega)]
                  obtain ⟨c, hc1, hc2⟩ := hcellx i x j d hx hj
                  exact ⟨c, by rw [← hcsl] at hc1; simpa using hc1, hc2⟩
                · have hb : len * ti.size ≤ i * ti.size := Nat.mul_le_mul_right _ hge
                  obtain ⟨c, hc1, hc2⟩ := hels (i - len) x j d hx hj
                  have hcn := (List.getElem?_eq_some_iff.1 hc1).1
                  have he : i * ti.size + j - len * ti.size = (i - len) * ti.size + j := by rw [Nat.sub_mul]; omega
                  rw [if_neg (by omega), if_pos (by omega), he]
                  exact ⟨c, hc1, hc2⟩)
            exact ⟨_, _, _, _, hrun, hE⟩
          · have hb : (len + ys.length) * infoe.bytes ≤ 140737488355328 := by
              rw [hte.bytes]
              have : (len + ys.length) * ti.bytes ≤ 4294967296 * 4096 := Nat.mul_le_mul h2 h1
              omega
            have g6' : cap * ti.size ≤ cs.size := by simpa using g6
            have hlm : len * ti.size ≤ cap * ti.size := Nat.mul_le_mul_right _ g3
            obtain ⟨⟨csl⟩, hcsl⟩ : ∃ l, l = cs := ⟨cs, rfl⟩
            have hcl : csl.length = cs.size := by rw [← hcsl]; simp
            have hold : (Builtin.firstCells infoe.size len (.slice (some ⟨b, o, none⟩) len cap)).run P w.drew = .ok (csl.take (len * ti.size)).toArray w.drew := by
              rw [hte.size]
              refine run_firstCells_some w.drew ti.size len ⟨b, o, none⟩ len cap _ (by simp; omega) fun j v hj => ?_
              rw [List.getElem?_take] at hj
              split at hj
              · rename_i hjl
                have ho : o = 0 := by
                  rcases g4 with hz | hz
                  · have : len = 0 := by omega
                    subst this; simp at hjl
                  · simpa using hz
                subst ho
                rw [Addr.add_mid, World.cell?_drew, cell_of_row w b _ cs Te fr g5, ← hcsl]
                simpa using hj
              · cases hj
            have hrun := run_append_grow_src (P := P) w ty tx rty e infoe ze ht.und hte.inf hte.zero (some ⟨b, o, none⟩) len cap (csl.take (len * ti.size)) hold xv ys.length news (hte.size ▸ hsrc) (by omega) (by omega) (growslice_fits (by omega) hb)
            have hge := grownCap_ge w (len + ys.length) cap e
            generalize grownCap w (len + ys.length) cap e = cap2 at hrun hge
            have hol : (csl.take (len * ti.size)).length = len * ti.size := by simp; omega
            have hsize : ((csl.take (len * ti.size) ++ news).toArray ++ Builtin.zeroCells ze.cells (cap2 - (len + ys.length))).size = cap2 * ti.size := by
              simp only [Array.size_append, List.size_toArray, List.length_append, size_zeroCells, hzl, hnl, hol, ← Nat.add_mul]
              congr 1; omega
            obtain ⟨lam', ok', he⟩ := newArr_eff (w' := w.drew.alloc (.cells ((csl.take (len * ti.size) ++ news).toArray ++ Builtin.zeroCells ze.cells (cap2 - (len + ys.length))) e)) h hf [n] (m := ti.size) (len := len + ys.length) (cap := cap2) (xs := xs.take len ++ ys)
              (cs := (csl.take (len * ti.size) ++ news).toArray ++ Builtin.zeroCells ze.cells (cap2 - (len + ys.length))) (Te := e) (fr := (0, 0)) (fun b hb => heap_alloc_old w.drew _ b hb) (by simp) ⟨rfl, rfl, rfl⟩ (heap_alloc_new w.drew _)
              (fun i _ => frozen_of_row _ _ i _ e (heap_alloc_new w.drew _)) hmem (by simp [MAX]; omega) (by simp; omega) hge (by omega) (by rw [hsize]; simp; rw [Nat.min_eq_left (by omega)]; exact Nat.mul_le_mul_right _ hge) (fun i x j d hi hj => by
                have hjl := (List.getElem?_eq_some_iff.1 hj).1
                rw [hmem x (List.mem_of_getElem? hi)] at hjl
                rcases hget i x j d hi hj with ⟨hlt, hx⟩ | ⟨hge2, hx⟩
                · have hb : (i + 1) * ti.size ≤ len * ti.size := Nat.mul_le_mul_right _ hlt
                  rw [Nat.add_mul] at hb
                  obtain ⟨c, hc1, hc2⟩ := hcellx i x j d hx hj
                  refine ⟨c, ?_, hc2.mono (fun _ _ => rfl) fun b hb => .inl hb⟩
                  rw [Array.getElem?_append_left (by simp; omega)]
                  simp only [List.getElem?_toArray]
                  rw [List.getElem?_append_left (by omega), List.getElem?_take, if_pos (by omega)]
                  rw [← hcsl] at hc1; simpa using hc1
                · have hb : len * ti.size ≤ i * ti.size := Nat.mul_le_mul_right _ hge2
                  obtain ⟨c, hc1, hc2⟩ := hels (i - len) x j d hx hj
                  have hcn := (List.getElem?_eq_some_iff.1 hc1).1
                  have he : i * ti.size + j - len * ti.size = (i - len) * ti.size + j := by rw [Nat.sub_mul]; omega
                  refine ⟨c, ?_, hc2.mono (fun _ _ => rfl) fun b hb => .inl hb⟩
                  rw [Array.getElem?_append_left (by simp; omega)]
                  simp only [List.getElem?_toArray]
                  rw [List.getElem?_append_right (by omega), hol, he]
                  exact hc1)
            exact ⟨_, _, lam', ok', hrun, he⟩
  | nils =>
    simp only [appTo] at hv
    obtain ⟨hfit, rfl, rfl⟩ := hv
    obtain ⟨news, hsrc, hels⟩ := src_of hT h.hok hx hy hfit.2.2.2.1 hfit.2.2.2.2 htx
    cases hs
    have := append_nil_eff h hf [] ht hte (rty := rty) hsrc hels hfit
    simpa using this

end
end Go.Rx
