/-
  Part of the proof that the abstract evaluator is right about the model's run; each lemma names its conditions.
-/
import Derived.Test.YtedopmfciabdcaaRxSound16
import Derived.Test.YtedopmfciabdcaaRxSoundC
namespace Go.Rx
open Go Go.RowKit

section
variable {P : Program} {T : Tys} {okIn U : Nat → Prop} {w0 : World} {p : Nat → Prop} {w w' : World} {ok ok' : Nat → Prop} {lam lam' : Nat → Option Nat} {H H' : Heap} {v0 : V} {u0 : Upd} {cv : Value}

theorem run_append_zeros {t tx ty e : TypeId} {i : TypeInfo} {z : Value} {k0 : IntKind} (ht : P.underlying t = some (.slice e)) (htx : P.underlying tx = some (.int k0)) (hi : P.info? e = some i) (hz : i.zero = some z) (hzs : z.cells.size = i.size)
    (k : IntKind) (n : Nat) (hn : 0 < n) (hn2 : n ≤ 4294967296) (hb : i.bytes ≤ 4096) :
    (Builtin.append_ #[t, tx] ty #[.slice none 0 0, .int k n]).run P w =
      .ok (.slice (some ⟨w.heap.size, 0, none⟩) n (grownCap w n 0 e)) (w.drew.alloc (.cells (Builtin.zeroCells z.cells n ++ Builtin.zeroCells z.cells (grownCap w n 0 e - n)) e)) := by
  have hw : IntKind.i64.wrap (n : Int) = n := by
    simp [IntKind.wrap, IntKind.bits, IntKind.signed]
    omega
  have hnn : ¬ (n = 0) := by omega
  have hfit : Builtin.nextslicecap n 0 * i.bytes ≤ 281474976710656 := growslice_fits (by omega) (by
    have : n * i.bytes ≤ 4294967296 * 4096 := Nat.mul_le_mul hn2 hb
    omega)
  have h48 : ¬ (281474976710656 < Builtin.nextslicecap n 0 * i.bytes) := by omega
  have h48' : ¬ (281474976710656 < (n : Int) * (i.bytes : Int)) := by
    have : (n : Int) * (i.bytes : Int) ≤ 4294967296 * 4096 := Int.mul_le_mul (by omega) (by omega) (by omega) (by omega)
    omega
  have h63 : ¬ (9223372036854775807 < (n : Int)) := by omega
  have h0 : ¬ ((n : Int) < 0) := by omega
  by_cases hsz : i.size = 0
  · have hz0 : z.cells = #[] := by have : z.cells.size = 0 := by omega
                                   exact Array.eq_empty_of_size_eq_zero this
    simp [Builtin.append_, run_underlying ht, run_underlying htx, sizeOf, typeInfo, zeroValue, hi, hz, asInt, asIntOf, hw, h0, h48, h48', h63, hnn, hsz, Question.forced, newRow, grownCap, Builtin.firstCells, Builtin.zeroCells, hz0]
    have hr : Array.range 0 = #[] := rfl
    simp [hr]
  · simp [Builtin.append_, run_underlying ht, run_underlying htx, sizeOf, typeInfo, zeroValue, hi, hz, asInt, asIntOf, hw, h0, h48, h48', h63, hnn, hsz, Question.forced, newRow, grownCap, Builtin.firstCells]
    intro hc
    rcases Nat.mul_eq_zero.1 hc with hc | hc
    · omega
    · exact absurd hc hsz

theorem isIntT_und (hT : TyOK P T) {t : Nat} (h : isIntT T (some t) = true) : ∃ k, P.underlying t = some (.int k) := by
  unfold isIntT at h
  simp only at h
  split at h
  · rename_i a b k z hTt
    obtain ⟨info, d, zz, ht⟩ := hT t _ hTt
    have hk := ht.kind
    cases d <;> simp only [kindOK] at hk
    subst hk
    exact ⟨_, ht.und⟩
  · cases h

theorem appZ_eff (hT : TyOK P T) (h : Ctx okIn U w0 p w ok lam H) {tb : Nat} (hf : Fresh p tb) {ty tx rty e : Nat} {it ti : TI} {info infoe : TypeInfo} {z2 ze : Value} {de : TypeDesc} (ht : TyAt P ty it info (.slice e) z2) (hte : TyAt P e ti infoe de ze)
    {s x : V} {sv xv : Value} (hs : VRel w ok lam H s sv) (hx : VRel w ok lam H x xv) (htx : isIntT T (some tx) = true) (hv : appZ tb ti s x (eqK v0 u0)) :
    Does P okIn U w0 p tb w ok lam H v0 u0 (Builtin.append_ #[ty, tx] rty #[sv, xv]) := by
  obtain ⟨k0, hk0⟩ := isIntT_und hT htx
  unfold appZ at hv
  split at hv
  · rename_i k n
    obtain ⟨h1, h2, h3, h4, rfl, rfl⟩ := hv
    cases hs
    cases hx.inv_d
    obtain ⟨m, rfl⟩ : ∃ m : Nat, n = m := ⟨n.toNat, by omega⟩
    have hzl : ze.cells.size = ti.size := by have := hte.zrel.1; rw [h4] at this; simpa using this.symm
    have hzd := zeroD_rel hte.zrel
    have hrun := run_append_zeros (P := P) (w := w) (ty := rty) ht.und hk0 hte.inf hte.zero (by rw [hzl, hte.size]) k m (by omega) (by omega) (by rw [hte.bytes]; exact h3)
    have hge := grownCap_ge w m 0 e
    generalize grownCap w m 0 e = cap at hrun hge
    have hsize : (Builtin.zeroCells ze.cells m ++ Builtin.zeroCells ze.cells (cap - m)).size = cap * ti.size := by
      simp only [Array.size_append, size_zeroCells, hzl, ← Nat.add_mul]
      congr 1; omega
    have hzc : ze.cells = ⟨ze.cells.toList⟩ := rfl
    obtain ⟨lam', ok', he⟩ := newArr_eff (w' := w.drew.alloc (.cells (Builtin.zeroCells ze.cells m ++ Builtin.zeroCells ze.cells (cap - m)) e)) h hf [] (m := ti.size) (len := m) (cap := cap) (xs := List.replicate m (zeroD ti.zero))
      (cs := Builtin.zeroCells ze.cells m ++ Builtin.zeroCells ze.cells (cap - m)) (Te := e) (fr := (0, 0)) (fun b hb => heap_alloc_old w.drew _ b hb) (by simp) ⟨rfl, rfl, rfl⟩ (heap_alloc_new w.drew _)
      (fun i _ => frozen_of_row _ _ i _ e (heap_alloc_new w.drew _)) (fun x hx => by rw [List.eq_of_mem_replicate hx, zeroD_length, h4]) (by simp [MAX]; omega) (by simp) hge (by omega) (by rw [hsize]; simp; exact Nat.mul_le_mul_right _ hge) (fun i x j d hi hj => by
        have hlt : i < m := by have := (List.getElem?_eq_some_iff.1 hi).1; simpa using this
        have hx : x = zeroD ti.zero := List.eq_of_mem_replicate (List.mem_of_getElem? hi)
        subst hx
        obtain ⟨c, hc, hd⟩ := hzd.get hj
        have hjl : j < ti.size := by have := (List.getElem?_eq_some_iff.1 hj).1; rw [zeroD_length, h4] at this; exact this
        refine ⟨c, ?_, hd _ _⟩
        have hb : i * ti.size + j < m * ti.size := by
          have : (i + 1) * ti.size ≤ m * ti.size := Nat.mul_le_mul_right _ hlt
          rw [Nat.add_mul] at this
          omega
        rw [Array.getElem?_append_left (by rw [size_zeroCells, hzl]; exact hb), ← Array.getElem?_toList, hzc, zeroCells_get (m := ti.size) (by simpa using hzl) hb]
        rw [Nat.mul_comm, Nat.mul_add_mod, Nat.mod_eq_of_lt hjl]
        exact hc)
    exact ⟨_, _, lam', ok', hrun, by simpa using he⟩
  · exact hv.elim
end
end Go.Rx
