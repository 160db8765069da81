/-
  Part 4: an evaluator over plain data of the model's code with its proof, plain laws on lists and numbers, and contracts of functions of the program; each lemma names its conditions.
-/
import Derived.Test.YtllkpikamadebaaRx3
import Derived.ProofKit
import Derived.Deep.SlicePairs
import Derived.Test.YtllkpikamadebaaProg

set_option linter.unusedSimpArgs false
set_option linter.unusedVariables false

namespace Go.Rx
open Go

theorem rdLs_badle {t : List UInt8} {r : Nat × Bool} (hr : r.1 ≤ t.length) : ∀ {m i : Nat}, i ≤ m → sfx t (rdLs t i r).2 = none → sfx t (rdLs t m r).2 = none
  | 0, i, hi, h => by obtain rfl : i = 0 := by omega
                      exact h
  | m + 1, i, hi, h => by
    by_cases he : i = m + 1
    · subst he; exact h
    · have h1 := rdLs_badle hr (m := m) (by omega) h
      rw [rdLs_snoc]
      have := rdLs_bad (k := 1) (rdLs_le (k := m) hr) h1
      exact this
theorem rdBs_badle {t : List UInt8} {most : Nat} {r : Nat × Bool} (hr : r.1 ≤ t.length) : ∀ {m i : Nat}, i ≤ m → sfx t (rdBs t most i r).2 = none → sfx t (rdBs t most m r).2 = none
  | 0, i, hi, h => by obtain rfl : i = 0 := by omega
                      exact h
  | m + 1, i, hi, h => by
    by_cases he : i = m + 1
    · subst he; exact h
    · have h1 := rdBs_badle hr (m := m) (by omega) h
      rw [rdBs_snoc]
      have := rdBs_bad (most := most) (k := 1) (rdBs_le (most := most) (k := m) hr) h1
      exact this
theorem sfx_none {t : List UInt8} {r : Nat × Bool} : sfx t r = none ↔ r.2 = true := by unfold sfx; split <;> simp_all

theorem loose_leaf {c : UInt8} {b : List UInt8} (hc : c = 108) : looseNode c b =
    if (rdLs (c :: b) (min (rdV (c :: b) 1000000000 (1, false)).1 10) (rdV (c :: b) 1000000000 (1, false)).2).2.2 = true then none
    else some (leafOf (rdLs (c :: b) (min (rdV (c :: b) 1000000000 (1, false)).1 10) (rdV (c :: b) 1000000000 (1, false)).2).1) := by
  have hle : (1 : Nat) ≤ (c :: b).length := by simp
  have hv := rdV_sfx (t := c :: b) (most := 1000000000) (r := (1, false)) hle
  have hle2 : (rdV (c :: b) (1000000000 : Nat) (1, false)).2.1 ≤ (c :: b).length := rdV_le hle
  have e0 : rdV (c :: b) 1000000000 (1, false) = rdV (c :: b) (1000000000 : Nat) (1, false) := rfl
  rw [e0]
  have hs : sfx (c :: b) (1, false) = some b := rfl
  rw [hs] at hv
  simp only at hv
  unfold looseNode
  cases h1 : rv b with
  | none =>
    rw [h1] at hv
    simp only at hv
    rw [if_pos (sfx_none.1 (rdLs_bad hle2 hv.2))]
  | some p =>
    obtain ⟨k, l⟩ := p
    rw [h1] at hv
    simp only at hv
    rw [if_pos (rv_iff.1 h1).1] at hv
    simp only
    rw [if_pos hc, hv.1]
    have h2 := rdLs_pl (k := min k 10) hle2 hv.2
    cases h3 : pl (min k 10) l with
    | none => rw [h3] at h2; rw [if_pos (sfx_none.1 h2)]; rfl
    | some p =>
      obtain ⟨es, rest⟩ := p
      rw [h3] at h2
      simp only at h2
      rw [if_neg (fun e => by rw [sfx_none.2 e] at h2; cases h2.2), h2.1]; rfl
theorem loose_branch {c : UInt8} {b : List UInt8} (hc : ¬ c = 108) : looseNode c b =
    if (rdBs (c :: b) 1000000000 (min (rdV (c :: b) 1000000000 (1, false)).1 10) (rdV (c :: b) 1000000000 (1, false)).2).2.2 = true then none
    else some (branchOf (rdBs (c :: b) 1000000000 (min (rdV (c :: b) 1000000000 (1, false)).1 10) (rdV (c :: b) 1000000000 (1, false)).2).1) := by
  have hle : (1 : Nat) ≤ (c :: b).length := by simp
  have hv := rdV_sfx (t := c :: b) (most := 1000000000) (r := (1, false)) hle
  have hle2 : (rdV (c :: b) (1000000000 : Nat) (1, false)).2.1 ≤ (c :: b).length := rdV_le hle
  have e0 : rdV (c :: b) 1000000000 (1, false) = rdV (c :: b) (1000000000 : Nat) (1, false) := rfl
  have e1 : ∀ k r, rdBs (c :: b) 1000000000 k r = rdBs (c :: b) (1000000000 : Nat) k r := fun _ _ => rfl
  rw [e0, e1]
  have hs : sfx (c :: b) (1, false) = some b := rfl
  rw [hs] at hv
  simp only at hv
  unfold looseNode
  cases h1 : rv b with
  | none =>
    rw [h1] at hv
    simp only at hv
    rw [if_pos (sfx_none.1 (rdBs_bad (most := 1000000000) hle2 hv.2))]
  | some p =>
    obtain ⟨k, l⟩ := p
    rw [h1] at hv
    simp only at hv
    rw [if_pos (rv_iff.1 h1).1] at hv
    simp only
    rw [if_neg hc, hv.1]
    have h2 := rdBs_pb (most := 1000000000) (k := min k 10) hle2 hv.2
    cases h3 : pb 1000000000 (min k 10) l with
    | none => rw [h3] at h2; rw [if_pos (sfx_none.1 h2)]; rfl
    | some p =>
      obtain ⟨es, rest⟩ := p
      rw [h3] at h2
      simp only at h2
      rw [if_neg (fun e => by rw [sfx_none.2 e] at h2; cases h2.2), h2.1]; rfl
theorem readNode_none {t : List UInt8} (h : unsealB t = none) : readNode t = none := by rw [readNode, h]
theorem readNode_short {t : List UInt8} {s : List UInt8} (h : unsealB t = some s) (hs : s.length < 2) : readNode t = none := by
  rw [readNode, h]
  match s, hs with
  | [], _ => rfl
  | [c], _ =>
    simp only [readBody, parseNode]
    split
    · rename_i n hp
      split at hp
      · cases hp
      · cases hp
    · rfl

/-- As far as place i. -/
def okUp (n : GNode) (i : Nat) : Prop := ascK (n.fKeys.take i) ∧ (∀ k ∈ n.fKeys.take i, k.length ≤ 24) ∧
  if n.fLeaf = true then ∀ v ∈ n.fVals.take i, v.length ≤ 24 else (∀ k ∈ n.fKids.take i, 2 ≤ k ∧ k ≤ 39) ∧ (n.fKids.take i).Nodup
end Go.Rx

namespace Go.Rx
open Go

/-! how much a walk adds -/
theorem kidsI_len {rec : Int → Tr → Tr} {L : Tr → Nat} (hL : ∀ t o, L (t.ord o) = L t) {g : Nat} (hr : ∀ c t, L (rec c t) + 1 ≤ L t + g) {first : Nat} : ∀ {l : List (List UInt8 × Int)} {t : Tr},
    L (kidsI rec first l t) ≤ L t + l.length * (g - 1)
  | [], t => by simp [kidsI]
  | (k, c) :: l, t => by
    have h1 := hr c t
    rw [kidsI]
    split
    · simp only [List.length_cons, Nat.succ_mul]; omega
    · have h2 := kidsI_len hL hr (first := first) (l := l) (t := (rec c t).ord ((rec c t).order && (!keyBelow ((rec c t).pairs.drop t.pairs.length) k && !keyFrom (((rec c t).pairs.take t.pairs.length).drop first) k)))
      rw [hL] at h2
      simp only [List.length_cons, Nat.succ_mul]; omega
theorem kids_four {t : List UInt8} {n : GNode} (h : readNode t = some n) : (n.fKeys.zip n.fKids).length ≤ 4 ∧ n.fKeys.length ≤ 4 := by
  have := (readNode_iff.1 h).1.2.1
  simp only [List.length_zip]; omega
theorem mul4 {n g : Nat} (h : n ≤ 4) : n * g ≤ 4 * g := Nat.mul_le_mul_right g h
theorem down_len {d : GDisk} {L : Tr → Nat} (hL : ∀ t o, L (t.ord o) = L t) (hB : ∀ t b, L { t with bad := b } = L t)
    (h1 : ∀ t p, L { t with pages := t.pages ++ [p] } ≤ L t + 1) (h2 : ∀ t p e (q : List GPair), q.length ≤ 4 → L { t with pages := t.pages ++ [p], deeps := t.deeps ++ [e], pairs := t.pairs ++ q } ≤ L t + 4) :
    ∀ {f : Nat} {page : Int} {t : Tr}, L (downI d f page t) + 1 ≤ L t + 2 * 4 ^ f
  | 0, page, t => by rw [downI, hB]; omega
  | f + 1, page, t => by
    have hp : 1 ≤ 4 ^ f := Nat.one_le_pow _ _ (by omega)
    rw [downI, Nat.pow_succ]
    split
    · rw [hB]; omega
    · rename_i n hn
      obtain ⟨k4, k5⟩ := kids_four hn
      split
      · rw [hB]; omega
      · split
        · have := h2 t page (8 - (f : Int)) (pairsOf n) (by simp only [pairsOf, List.length_map, List.length_zip]; omega)
          omega
        · have h3 := kidsI_len hL (rec := downI d f) (fun c t => down_len hL hB h1 h2 (f := f) (page := c) (t := t)) (first := t.pairs.length) (l := n.fKeys.zip n.fKids) (t := ⟨t.pages ++ [page], t.pairs, t.deeps, t.order, t.bad⟩)
          have h4 := h1 t page
          have h5 := mul4 (g := 2 * 4 ^ f - 1) k4
          omega
theorem down_pages {d : GDisk} {f : Nat} {page : Int} {t : Tr} : (downI d f page t).pages.length + 1 ≤ t.pages.length + 2 * 4 ^ f :=
  down_len (L := fun t => t.pages.length) (fun _ _ => rfl) (fun _ _ => rfl) (fun t p => by simp) (fun t p e q h => by simp)
theorem down_pairs {d : GDisk} {f : Nat} {page : Int} {t : Tr} : (downI d f page t).pairs.length + 1 ≤ t.pairs.length + 2 * 4 ^ f :=
  down_len (L := fun t => t.pairs.length) (fun _ _ => rfl) (fun _ _ => rfl) (fun t p => by simp) (fun t p e q h => by simp; omega)
theorem down_deeps {d : GDisk} {f : Nat} {page : Int} {t : Tr} : (downI d f page t).deeps.length + 1 ≤ t.deeps.length + 2 * 4 ^ f :=
  down_len (L := fun t => t.deeps.length) (fun _ _ => rfl) (fun _ _ => rfl) (fun t p => by simp) (fun t p e q h => by simp)
theorem kids_grow {rec : Int → Tr → Tr} (hr : ∀ c t, t.pairs.length ≤ (rec c t).pairs.length) {first : Nat} : ∀ {l : List (List UInt8 × Int)} {t : Tr}, t.pairs.length ≤ (kidsI rec first l t).pairs.length
  | [], t => Nat.le_refl _
  | (k, c) :: l, t => by
    rw [kidsI]
    split
    · exact hr c t
    · refine Nat.le_trans (hr c t) ?_
      have := kids_grow hr (first := first) (l := l) (t := (rec c t).ord ((rec c t).order && (!keyBelow ((rec c t).pairs.drop t.pairs.length) k && !keyFrom (((rec c t).pairs.take t.pairs.length).drop first) k)))
      exact this
theorem down_grow {d : GDisk} : ∀ {f : Nat} {page : Int} {t : Tr}, t.pairs.length ≤ (downI d f page t).pairs.length
  | 0, _, _ => Nat.le_refl _
  | f + 1, page, t => by
    rw [downI]
    split
    · exact Nat.le_refl _
    · split
      · exact Nat.le_refl _
      · split
        · simp
        · exact kids_grow (fun c t => down_grow) (t := ⟨t.pages ++ [page], t.pairs, t.deeps, t.order, t.bad⟩)
def room (f : Nat) (t : Tr) : Prop := t.pages.length + 2 * 4 ^ f ≤ 1000000000 ∧ t.pairs.length + 2 * 4 ^ f ≤ 1000000000 ∧ t.deeps.length + 2 * 4 ^ f ≤ 1000000000
theorem pairs_snoc {n : GNode} {i : Nat} {p q : List UInt8} (hp : n.fKeys[i]? = some p) (hq : n.fVals[i]? = some q) : (pairsOf n).take (i + 1) = (pairsOf n).take i ++ [⟨p, q⟩] := by
  rw [take_snoc (p := (⟨p, q⟩ : GPair))]
  simp only [pairsOf, List.getElem?_map, zip_at hp hq]; rfl
end Go.Rx

namespace Go.Rx
open Go
theorem kidsS_len {rec : Int → List UInt8 → List UInt8 → Bool → Al → Al} {L : Al → Nat} {g : Nat} (hr : ∀ c lo hi m a, L (rec c lo hi m a) + 1 ≤ L a + g) {low high : List UInt8} {has : Bool} : ∀ {l : List (List UInt8 × Int)} {a : Al},
    L (kidsS rec low high has l a) ≤ L a + l.length * (g - 1)
  | [], a => by simp [kidsS]
  | (k, c) :: l, a => by
    rw [kidsS]
    have h1 := hr c (lowS low k) (highS high has l) (moreS high has l) a
    have h2 := kidsS_len hr (low := low) (high := high) (has := has) (l := l) (a := rec c (lowS low k) (highS high has l) (moreS high has l) a)
    simp only [List.length_cons, Nat.succ_mul]; omega
theorem walk_len {d : GDisk} {L : Al → Nat} (hB : ∀ a b, L { a with bad := b } = L a)
    (h1 : ∀ a p, L { a with pages := a.pages ++ [p] } ≤ L a + 1) (h2 : ∀ (a : Al) p e (q : List GPair) lo, q.length ≤ 4 → L ⟨a.pairs ++ q, a.pages ++ [p], a.deeps ++ [e], a.bad, lo⟩ ≤ L a + 4) :
    ∀ {f : Nat} {page : Int} {low high : List UInt8} {has : Bool} {a : Al}, L (walkS d f page low high has a) + 1 ≤ L a + 2 * 4 ^ f
  | 0, page, _, _, _, a => by rw [walkS, hB]; omega
  | f + 1, page, low, high, has, a => by
    have hp : 1 ≤ 4 ^ f := Nat.one_le_pow _ _ (by omega)
    rw [walkS, Nat.pow_succ]
    split
    · rw [hB]; omega
    · rename_i n hn
      obtain ⟨k4, k5⟩ := kids_four hn
      split
      · rw [hB]; omega
      · split
        · rw [leafS_eq]
          have := h2 a page (7 - (f : Int)) ((n.fKeys.zip n.fVals).map pairOf) (a.loose || (n.fKeys.zip n.fVals).any fun e => bLess e.1 low || (has && !bLess e.1 high)) (by simp only [List.length_map, List.length_zip]; omega)
          simp only
          omega
        · have h3 := kidsS_len (L := L) (rec := walkS d f) (fun c lo hi m a => walk_len hB h1 h2) (low := low) (high := high) (has := has) (l := n.fKeys.zip n.fKids) (a := ⟨a.pairs, a.pages ++ [page], a.deeps, a.bad, a.loose⟩)
          have h4 := h1 a page
          have h5 := mul4 (g := 2 * 4 ^ f - 1) k4
          omega
theorem walk_pages {d : GDisk} {f : Nat} {page : Int} {low high : List UInt8} {has : Bool} {a : Al} : (walkS d f page low high has a).pages.length + 1 ≤ a.pages.length + 2 * 4 ^ f :=
  walk_len (L := fun a => a.pages.length) (fun _ _ => rfl) (fun a p => by simp) (fun a p e q lo h => by simp)
theorem walk_pairs {d : GDisk} {f : Nat} {page : Int} {low high : List UInt8} {has : Bool} {a : Al} : (walkS d f page low high has a).pairs.length + 1 ≤ a.pairs.length + 2 * 4 ^ f :=
  walk_len (L := fun a => a.pairs.length) (fun _ _ => rfl) (fun a p => by simp) (fun a p e q lo h => by simp; omega)
theorem walk_deeps {d : GDisk} {f : Nat} {page : Int} {low high : List UInt8} {has : Bool} {a : Al} : (walkS d f page low high has a).deeps.length + 1 ≤ a.deeps.length + 2 * 4 ^ f :=
  walk_len (L := fun a => a.deeps.length) (fun _ _ => rfl) (fun a p => by simp) (fun a p e q lo h => by simp)
def roomS (f : Nat) (a : Al) : Prop := a.pages.length + 2 * 4 ^ f ≤ 1000000000 ∧ a.pairs.length + 2 * 4 ^ f ≤ 1000000000 ∧ a.deeps.length + 2 * 4 ^ f ≤ 1000000000
def leaf1 (low high : List UInt8) (has : Bool) (k v : List UInt8) (a : Al) : Al := ⟨a.pairs ++ [⟨k, v⟩], a.pages, a.deeps, a.bad, a.loose || (bLess k low || (has && !bLess k high))⟩
theorem leafS_cons {low high : List UInt8} {has : Bool} {k v : List UInt8} {l : List (List UInt8 × List UInt8)} {a : Al} : leafS low high has ((k, v) :: l) a = leafS low high has l (leaf1 low high has k v a) := rfl
end Go.Rx

namespace Go.Rx
open Go

def giveP (w : GWork) : GWork × Int := match w.fUsable with
  | u :: us => ({ w with fUsable := us, fFresh := w.fFresh ++ [u] }, u)
  | [] => if (w.fDisk.fPages.length : Int) ≤ w.fNext then (w, 0) else ({ w with fNext := IntKind.i64.wrap (w.fNext + 1), fFresh := w.fFresh ++ [w.fNext] }, w.fNext)
def putN (w : GWork) (n : GNode) : Option (GWork × Int) :=
  if nodeOk n then if (giveP w).2 = 0 then none else
    match writePage (giveP w).1.fDisk (giveP w).2 (nodeText n) with
    | none => none
    | some d => some ({ (giveP w).1 with fDisk := d }, (giveP w).2)
  else none

/-! a work whose lists are ours: the usable pages begin at a place -/
structure OW where
  pages : List (List UInt8)
  late : List GPut
  next : Int
  ua : List Int
  uo : Nat
  gone : List Int
  fresh : List Int
def OW.work (w : OW) : GWork := ⟨⟨w.pages, w.late⟩, w.next, w.ua.drop w.uo, w.gone, w.fresh⟩
def ofW (w : GWork) : OW := ⟨w.fDisk.fPages, w.fDisk.fLate, w.fNext, w.fUsable, 0, w.fGone, w.fFresh⟩
theorem ofW_work {w : GWork} : (ofW w).work = w := rfl
def OW.v (w : OW) : V := .agg [.own 0 0 w.pages.length, .own 1 0 w.late.length, .d (.int .i64 w.next), .own 2 w.uo (w.ua.length - w.uo), .own 3 0 w.gone.length, .own 4 0 w.fresh.length]
def OW.h (w : OW) : List (Nat × AObj) := [(0, .arr 1 (strs w.pages)), (1, .arr 2 (GPutS w.late)), (2, .arr 1 (ints w.ua)), (3, .arr 1 (ints w.gone)), (4, .arr 1 (ints w.fresh))]
theorem OW.v_eq {w : OW} : w.v = .agg [.own 0 0 w.pages.length, .own 1 0 w.late.length, .d (.int .i64 w.next), .own 2 w.uo (w.ua.length - w.uo), .own 3 0 w.gone.length, .own 4 0 w.fresh.length] := rfl
theorem OW.h_eq {w : OW} : w.h = [(0, .arr 1 (strs w.pages)), (1, .arr 2 (GPutS w.late)), (2, .arr 1 (ints w.ua)), (3, .arr 1 (ints w.gone)), (4, .arr 1 (ints w.fresh))] := rfl
theorem flat_owh {w : OW} : FlatH w.h := flatH_cons flat_strs (flatH_cons flat_GPutS (flatH_cons flat_ints (flatH_cons flat_ints (flatH_cons flat_ints flatH_nil))))
def giveO (w : GWork) : OW × Int := match w.fUsable with
  | u :: us => ({ ofW w with ua := u :: us, uo := 1, fresh := w.fFresh ++ [u] }, u)
  | [] => if (w.fDisk.fPages.length : Int) ≤ w.fNext then (ofW w, 0) else ({ ofW w with next := IntKind.i64.wrap (w.fNext + 1), fresh := w.fFresh ++ [w.fNext] }, w.fNext)
theorem giveO_eq {w : GWork} : ((giveO w).1.work, (giveO w).2) = giveP w := by
  unfold giveO giveP
  cases h : w.fUsable with
  | nil =>
    simp only
    split
    · rw [ofW_work]
    · simp [OW.work, ofW, h]
  | cons u us => simp [OW.work, ofW]
def putO (w : GWork) (n : GNode) : OW × Int := match putN w n with
  | none => (ofW w, 0)
  | some (_, p) => ({ (giveO w).1 with late := (giveO w).1.late ++ [⟨p, nodeText n⟩] }, p)
theorem putO_eq {w w' : GWork} {n : GNode} {p : Int} (h : putN w n = some (w', p)) : (putO w n).1.work = w' ∧ (putO w n).2 = p := by
  have hg := giveO_eq (w := w)
  rw [putO, h]
  simp only [and_true]
  unfold putN at h
  split at h
  · split at h
    · cases h
    · split at h
      · cases h
      · rename_i d hd
        simp only [Option.some.injEq, Prod.mk.injEq] at h
        obtain ⟨rfl, rfl⟩ := h
        unfold writePage at hd
        split at hd
        · obtain rfl := Option.some.inj hd
          rw [← hg]; rfl
        · cases hd
  · cases h
/-- The disk of a work where a page was given. -/
theorem giveO_disk {w : GWork} : (giveO w).1.pages = w.fDisk.fPages ∧ (giveO w).1.late = w.fDisk.fLate := by
  unfold giveO
  split
  · exact ⟨rfl, rfl⟩
  · split <;> exact ⟨rfl, rfl⟩
attribute [go_sem] Nat.sub_zero
theorem ints_tail {l : List Int} {o : Nat} : ((ints l).drop o).take (l.length - o) = ints (l.drop o) := by
  rw [ints_drop, List.take_of_length_le (by simp [ints])]
attribute [go_sem] ints_tail
end Go.Rx

namespace Go.Rx
open Go

def smallD (d : GDisk) : Prop := d.fPages.length ≤ 1048576 ∧ d.fLate.length ≤ 1048576
def smallW (w : GWork) : Prop := smallD w.fDisk ∧ w.fUsable.length ≤ 1048576 ∧ w.fGone.length ≤ 1048576 ∧ w.fFresh.length ≤ 1048576 + w.fDisk.fLate.length

/-! a changer: a work that is ours, and whether it went wrong -/
structure Ch where
  w : OW
  bad : Bool
def Ch.h (c : Ch) : List (Nat × AObj) := [(0, .box [.own 1 0 c.w.pages.length, .own 2 0 c.w.late.length, .d (.int .i64 c.w.next), .own 3 c.w.uo (c.w.ua.length - c.w.uo), .own 4 0 c.w.gone.length, .own 5 0 c.w.fresh.length, .d (.bool c.bad)]),
  (1, .arr 1 (strs c.w.pages)), (2, .arr 2 (GPutS c.w.late)), (3, .arr 1 (ints c.w.ua)), (4, .arr 1 (ints c.w.gone)), (5, .arr 1 (ints c.w.fresh))]
def chPut (c : Ch) (n : GNode) : Ch × Int := bif c.bad then (c, 0) else bif decide ((putO c.w.work n).2 = 0) then (⟨c.w, true⟩, 0) else (⟨(putO c.w.work n).1, false⟩, (putO c.w.work n).2)

theorem giveP_small {w : GWork} (h : smallW w) : (giveP w).1.fDisk = w.fDisk ∧ (giveP w).1.fUsable.length ≤ 1048576 ∧ (giveP w).1.fGone.length ≤ 1048576 ∧ (giveP w).1.fFresh.length ≤ 1048577 + w.fDisk.fLate.length := by
  obtain ⟨h1, h2, h3, h4⟩ := h
  unfold giveP
  split
  · rename_i u us hu
    rw [hu] at h2
    simp only [List.length_cons] at h2
    refine ⟨rfl, ?_, h3, ?_⟩
    · show us.length ≤ _; omega
    · show (w.fFresh ++ [u]).length ≤ _
      simp only [List.length_append, List.length_cons, List.length_nil]; omega
  · split
    · exact ⟨rfl, h2, h3, Nat.le_trans h4 (by omega)⟩
    · refine ⟨rfl, h2, h3, ?_⟩
      show (w.fFresh ++ [w.fNext]).length ≤ _
      simp only [List.length_append, List.length_cons, List.length_nil]; omega
theorem putN_small {w w' : GWork} {n : GNode} {p : Int} (h : smallW w) (hp : putN w n = some (w', p)) : smallW w' := by
  obtain ⟨g1, g2, g3, g4⟩ := giveP_small h
  unfold putN at hp
  split at hp
  · split at hp
    · cases hp
    · split at hp
      · cases hp
      · rename_i d hd
        simp only [Option.some.injEq, Prod.mk.injEq] at hp
        obtain ⟨rfl, rfl⟩ := hp
        unfold writePage at hd
        split at hd
        · rename_i hc
          obtain rfl := Option.some.inj hd
          rw [g1]
          have := h.1.2
          have := h.1.1
          have := hc.2.2.2
          rw [g1] at this
          refine ⟨⟨by omega, ?_⟩, g2, g3, ?_⟩
          · simp only [List.length_append, List.length_cons, List.length_nil]; omega
          · simp only [List.length_append, List.length_cons, List.length_nil]; omega
        · cases hd
  · cases hp
theorem putN_page {w w' : GWork} {n : GNode} {p : Int} (hp : putN w n = some (w', p)) : p ≠ 0 := by
  unfold putN at hp
  split at hp
  · split at hp
    · cases hp
    · rename_i h
      split at hp
      · cases hp
      · simp only [Option.some.injEq, Prod.mk.injEq] at hp
        exact hp.2 ▸ h
  · cases hp
theorem chPut_eq {c : Ch} {n : GNode} (hb : c.bad = false) : (match putN c.w.work n with
    | none => (chPut c n).1 = ⟨c.w, true⟩ ∧ (chPut c n).2 = 0
    | some (w', p) => (chPut c n).1.bad = false ∧ (chPut c n).1.w.work = w' ∧ (chPut c n).2 = p) := by
  unfold chPut
  rw [hb]
  cases h : putN c.w.work n with
  | none =>
    have : (putO c.w.work n).2 = 0 := by rw [putO, h]
    simp [this]
  | some q =>
    obtain ⟨w', p⟩ := q
    obtain ⟨e1, e2⟩ := putO_eq h
    have := putN_page h
    have d0 : decide ((putO c.w.work n).2 = 0) = false := decide_eq_false (by rw [e2]; exact this)
    simp only [d0, cond_false]
    exact ⟨trivial, e1, e2⟩
theorem chPut_bad {c : Ch} {n : GNode} (hb : c.bad = true) : chPut c n = (c, 0) := by rw [chPut, hb]; rfl
theorem chPut_small {c : Ch} {n : GNode} (h : smallW c.w.work) : smallW (chPut c n).1.w.work := by
  cases hb : c.bad with
  | true => rw [chPut_bad hb]; exact h
  | false =>
    have := chPut_eq (n := n) hb
    cases hp : putN c.w.work n with
    | none => rw [hp] at this; rw [this.1]; exact h
    | some q =>
      obtain ⟨w', p⟩ := q
      rw [hp] at this
      obtain ⟨_, e, _⟩ := this
      rw [e]; exact putN_small h hp
/-- What a changer's box is when its work is asked for as data. -/
theorem OW.work_cells {w : OW} : w.work.cells = [.sl (strs w.pages), .sl (GPutS w.late), .int .i64 w.next, .sl (ints (w.ua.drop w.uo)), .sl (ints w.gone), .sl (ints w.fresh)] := rfl
end Go.Rx

namespace Go.Rx
open Go

def chunk4 {α : Type} : List α → List (List α)
  | [] => []
  | x :: l => ((x :: l).take 4) :: chunk4 (l.drop 3)
termination_by l => l.length
decreasing_by simp only [List.length_drop, List.length_cons]; omega
theorem chunk4_nil {α : Type} : chunk4 ([] : List α) = [] := by rw [chunk4]
theorem chunk4_cons {α : Type} {l : List α} (h : l ≠ []) : chunk4 l = l.take 4 :: chunk4 (l.drop 4) := by
  cases l with
  | nil => exact absurd rfl h
  | cons x l => rw [chunk4]; rfl
theorem chunk4_at {α : Type} {l : List α} {i : Nat} (h : i < l.length) : chunk4 (l.drop i) = (l.drop i).take 4 :: chunk4 (l.drop (i + 4)) := by
  rw [chunk4_cons (fun e => by have := congrArg List.length e; simp at this; omega), List.drop_drop]
theorem chunk4_end {α : Type} {l : List α} {i : Nat} (h : l.length ≤ i) : chunk4 (l.drop i) = [] := by
  rw [List.drop_eq_nil_of_le h, chunk4_nil]

abbrev GKid := GField
abbrev GKidS := GFieldS
def leafB (b : List GPair) : GNode := ⟨true, b.map (·.fKey), b.map (·.fVal), []⟩
def kidB (b : List GKid) : GNode := ⟨false, b.map (·.fName), [], b.map (·.fKind)⟩
def key1 : List GPair → List UInt8
  | [] => []
  | p :: _ => p.fKey
def name1 : List GKid → List UInt8
  | [] => []
  | p :: _ => p.fName
def leavesA : Ch → List GKid → List (List GPair) → Ch × List GKid
  | c, out, [] => (c, out)
  | c, out, b :: bs => bif (chPut c (leafB b)).1.bad then ((chPut c (leafB b)).1, out ++ [⟨key1 b, (chPut c (leafB b)).2⟩]) else leavesA (chPut c (leafB b)).1 (out ++ [⟨key1 b, (chPut c (leafB b)).2⟩]) bs
def levelA : Ch → List GKid → List (List GKid) → Ch × List GKid
  | c, out, [] => (c, out)
  | c, out, b :: bs => levelA (chPut c (kidB b)).1 (out ++ [⟨name1 b, (chPut c (kidB b)).2⟩]) bs
theorem chh_eq {c : Ch} : c.h = [(0, .box [.own 1 0 c.w.pages.length, .own 2 0 c.w.late.length, .d (.int .i64 c.w.next), .own 3 c.w.uo (c.w.ua.length - c.w.uo), .own 4 0 c.w.gone.length, .own 5 0 c.w.fresh.length, .d (.bool c.bad)]),
  (1, .arr 1 (strs c.w.pages)), (2, .arr 2 (GPutS c.w.late)), (3, .arr 1 (ints c.w.ua)), (4, .arr 1 (ints c.w.gone)), (5, .arr 1 (ints c.w.fresh))] := rfl
theorem flat_chh {c : Ch} : FlatH c.h := by
  refine flatH_cons ?_ (flatH_cons flat_strs (flatH_cons flat_GPutS (flatH_cons flat_ints (flatH_cons flat_ints (flatH_cons flat_ints flatH_nil)))))
  intro v hv
  simp only [List.mem_cons, List.not_mem_nil, or_false] at hv
  rcases hv with rfl | rfl | rfl | rfl | rfl | rfl | rfl <;> first | exact .own _ _ _ | exact .d (.int _ _) | exact .d (.bool _)
end Go.Rx

namespace Go.Rx
open Go

theorem leavesA_small : ∀ {bs : List (List GPair)} {c : Ch} {out : List GKid}, smallW c.w.work → smallW (leavesA c out bs).1.w.work
  | [], c, out, h => h
  | b :: bs, c, out, h => by
    rw [leavesA]
    have h2 := chPut_small (n := leafB b) h
    cases (chPut c (leafB b)).1.bad with
    | true => exact h2
    | false => exact leavesA_small h2
theorem levelA_small : ∀ {bs : List (List GKid)} {c : Ch} {out : List GKid}, smallW c.w.work → smallW (levelA c out bs).1.w.work
  | [], c, out, h => h
  | b :: bs, c, out, h => by
    rw [levelA]
    exact levelA_small (chPut_small (n := kidB b) h)
theorem levelA_len : ∀ {bs : List (List GKid)} {c : Ch} {out : List GKid}, (levelA c out bs).2.length = out.length + bs.length
  | [], c, out => rfl
  | b :: bs, c, out => by
    rw [levelA, levelA_len]; simp; omega
theorem leavesA_len : ∀ {bs : List (List GPair)} {c : Ch} {out : List GKid}, (leavesA c out bs).2.length ≤ out.length + bs.length
  | [], c, out => Nat.le_refl _
  | b :: bs, c, out => by
    rw [leavesA]
    cases (chPut c (leafB b)).1.bad with
    | true => simp
    | false =>
      have := leavesA_len (bs := bs) (c := (chPut c (leafB b)).1) (out := out ++ [⟨key1 b, (chPut c (leafB b)).2⟩])
      simp at this ⊢; omega
theorem chunk4_len {α : Type} : ∀ (n : Nat) (l : List α), l.length ≤ n → 4 * (chunk4 l).length ≤ l.length + 3
  | 0, l, h => by
    have : l = [] := List.eq_nil_of_length_eq_zero (by omega)
    subst this; rw [chunk4_nil]; simp
  | n + 1, l, h => by
    cases l with
    | nil => rw [chunk4_nil]; simp
    | cons x l =>
      have := chunk4_len n (l.drop 3) (by simp at h ⊢; omega)
      rw [chunk4]
      simp at this ⊢
      by_cases hl : l.length ≤ 3
      · rw [show l.drop 3 = [] from List.drop_eq_nil_of_le hl, chunk4_nil]; simp
      · omega
def levelsA : Nat → Ch → List GKid → Ch × List GKid
  | 0, c, k => (c, k)
  | f + 1, c, k => if c.bad = false ∧ 1 < k.length then levelsA f (levelA c [] (chunk4 k)).1 (levelA c [] (chunk4 k)).2 else (c, k)
theorem levelsA_stop {f : Nat} {c : Ch} {k : List GKid} (h : ¬ (c.bad = false ∧ 1 < k.length)) : levelsA f c k = (c, k) := by
  cases f with
  | zero => rfl
  | succ f => rw [levelsA, if_neg h]
theorem levelsA_step {f : Nat} {c : Ch} {k : List GKid} (h1 : c.bad = false) (h2 : 1 < k.length) : levelsA (f + 1) c k = levelsA f (levelA c [] (chunk4 k)).1 (levelA c [] (chunk4 k)).2 := by
  rw [levelsA, if_pos ⟨h1, h2⟩]
def page1 : List GKid → Int
  | [] => 0
  | k :: _ => k.fKind
def buildR (w : GWork) (l : List GPair) : Ch × List GKid :=
  levelsA l.length (leavesA ⟨ofW w, false⟩ [] (chunk4 l)).1 (leavesA ⟨ofW w, false⟩ [] (chunk4 l)).2
def buildI (w : GWork) (l : List GPair) : OW × Int × Bool :=
  bif decide (ascK (l.map (·.fKey))) then
    bif (buildR w l).1.bad then (ofW w, 0, false) else ((buildR w l).1.w, page1 (buildR w l).2, true)
  else (ofW w, 0, false)
theorem level_less {c : Ch} {k : List GKid} (h : 1 < k.length) : (levelA c [] (chunk4 k)).2.length < k.length := by
  have := chunk4_len _ k (Nat.le_refl _)
  rw [levelA_len]; simp; omega
theorem leaves_le {c : Ch} {l : List GPair} : (leavesA c [] (chunk4 l)).2.length ≤ l.length := by
  have := chunk4_len _ l (Nat.le_refl _)
  have h2 := leavesA_len (bs := chunk4 l) (c := c) (out := [])
  simp at h2; omega
end Go.Rx

namespace Go.Rx
open Go

def leavesS : GWork → List GKid → List (List GPair) → Option (GWork × List GKid)
  | w, out, [] => some (w, out)
  | w, out, b :: bs => match putN w (leafB b) with
    | none => none
    | some (w', p) => leavesS w' (out ++ [⟨key1 b, p⟩]) bs
def levelS : GWork → List GKid → List (List GKid) → Option (GWork × List GKid)
  | w, out, [] => some (w, out)
  | w, out, b :: bs => match putN w (kidB b) with
    | none => none
    | some (w', p) => levelS w' (out ++ [⟨name1 b, p⟩]) bs
def levelsS : Nat → GWork → List GKid → Option (GWork × List GKid)
  | 0, w, k => some (w, k)
  | f + 1, w, k => if 1 < k.length then match levelS w [] (chunk4 k) with
    | none => none
    | some (w', k') => levelsS f w' k' else some (w, k)
def buildS (w : GWork) (l : List GPair) : Option (GWork × Int) :=
  if ascK (l.map (·.fKey)) then match leavesS w [] (chunk4 l) with
    | none => none
    | some (w1, k1) => match levelsS l.length w1 k1 with
      | none => none
      | some (w2, k2) => some (w2, page1 k2)
  else none
theorem leaves_eq : ∀ {bs : List (List GPair)} {c : Ch} {out : List GKid}, c.bad = false → (match leavesS c.w.work out bs with
    | none => (leavesA c out bs).1.bad = true
    | some (w', k) => (leavesA c out bs).1.bad = false ∧ (leavesA c out bs).1.w.work = w' ∧ (leavesA c out bs).2 = k)
  | [], c, out, hb => ⟨hb, rfl, rfl⟩
  | b :: bs, c, out, hb => by
    have := chPut_eq (n := leafB b) hb
    rw [leavesS, leavesA]
    cases hp : putN c.w.work (leafB b) with
    | none => rw [hp] at this; rw [this.1]; rfl
    | some q =>
      obtain ⟨w', p⟩ := q
      rw [hp] at this
      obtain ⟨e1, e2, e3⟩ := this
      rw [e1, e3]
      simp only [cond_false]
      have ih := leaves_eq (bs := bs) (out := out ++ [⟨key1 b, p⟩]) e1
      rw [e2] at ih
      exact ih
theorem level_bad : ∀ {bs : List (List GKid)} {c : Ch} {out : List GKid}, c.bad = true → (levelA c out bs).1.bad = true
  | [], c, out, hb => hb
  | b :: bs, c, out, hb => by
    rw [levelA, chPut_bad hb]
    exact level_bad hb
theorem level_eq : ∀ {bs : List (List GKid)} {c : Ch} {out : List GKid}, c.bad = false → (match levelS c.w.work out bs with
    | none => (levelA c out bs).1.bad = true
    | some (w', k) => (levelA c out bs).1.bad = false ∧ (levelA c out bs).1.w.work = w' ∧ (levelA c out bs).2 = k)
  | [], c, out, hb => ⟨hb, rfl, rfl⟩
  | b :: bs, c, out, hb => by
    have := chPut_eq (n := kidB b) hb
    rw [levelS, levelA]
    cases hp : putN c.w.work (kidB b) with
    | none => rw [hp] at this; exact level_bad (by rw [this.1])
    | some q =>
      obtain ⟨w', p⟩ := q
      rw [hp] at this
      obtain ⟨e1, e2, e3⟩ := this
      rw [e3]
      have ih := level_eq (bs := bs) (out := out ++ [⟨name1 b, p⟩]) e1
      rw [e2] at ih
      exact ih
theorem levels_eq : ∀ {f : Nat} {c : Ch} {k : List GKid}, c.bad = false → (match levelsS f c.w.work k with
    | none => (levelsA f c k).1.bad = true
    | some (w', k') => (levelsA f c k).1.bad = false ∧ (levelsA f c k).1.w.work = w' ∧ (levelsA f c k).2 = k')
  | 0, c, k, hb => ⟨hb, rfl, rfl⟩
  | f + 1, c, k, hb => by
    rw [levelsS, levelsA]
    by_cases h : 1 < k.length
    · rw [if_pos h, if_pos ⟨hb, h⟩]
      have := level_eq (bs := chunk4 k) (out := []) hb
      cases hl : levelS c.w.work [] (chunk4 k) with
      | none =>
        rw [hl] at this
        rw [levelsA_stop (by rw [this]; simp)]
        exact this
      | some q =>
        obtain ⟨w', k'⟩ := q
        rw [hl] at this
        obtain ⟨e1, e2, e3⟩ := this
        have ih := levels_eq (f := f) (k := k') e1
        rw [e2] at ih
        rw [e3]
        exact ih
    · rw [if_neg h, if_neg (fun x => h x.2)]
      exact ⟨hb, rfl, rfl⟩
/-- Both build the same. -/
theorem build_eq {w : GWork} {l : List GPair} : (match buildS w l with
    | none => (buildI w l).1.work = w ∧ (buildI w l).2 = (0, false)
    | some (w', p) => (buildI w l).1.work = w' ∧ (buildI w l).2 = (p, true)) := by
  unfold buildS buildI
  by_cases h : ascK (l.map (·.fKey))
  · rw [if_pos h, decide_eq_true h, cond_true]
    have h1 := leaves_eq (bs := chunk4 l) (c := ⟨ofW w, false⟩) (out := []) rfl
    rw [ofW_work] at h1
    cases hl : leavesS w [] (chunk4 l) with
    | none =>
      rw [hl] at h1
      have : (buildR w l).1.bad = true := by rw [buildR, levelsA_stop (by rw [h1]; simp)]; exact h1
      rw [this]
      exact ⟨ofW_work, rfl⟩
    | some q =>
      obtain ⟨w1, k1⟩ := q
      rw [hl] at h1
      obtain ⟨e1, e2, e3⟩ := h1
      have h2 := levels_eq (f := l.length) (k := k1) e1
      rw [e2] at h2
      simp only
      cases hs : levelsS l.length w1 k1 with
      | none =>
        rw [hs] at h2
        have : (buildR w l).1.bad = true := by rw [buildR, e3]; exact h2
        rw [this]
        exact ⟨ofW_work, rfl⟩
      | some q =>
        obtain ⟨w2, k2⟩ := q
        rw [hs] at h2
        have e : buildR w l = levelsA l.length (leavesA ⟨ofW w, false⟩ [] (chunk4 l)).1 k1 := by rw [buildR, e3]
        rw [e, h2.1]
        exact ⟨h2.2.1, by rw [h2.2.2]; rfl⟩
  · rw [if_neg h, decide_eq_false h]
    exact ⟨ofW_work, rfl⟩
theorem putW_small {w : GWork} {n : GNode} (h : smallW w) : smallW (match putN w n with
  | none => (w, (0 : Int))
  | some (w', p) => (w', p)).1 := by
  cases hp : putN w n with
  | none => exact h
  | some q => exact putN_small h hp
theorem levelS_len : ∀ {bs : List (List GKid)} {w : GWork} {out : List GKid} {w' : GWork} {k : List GKid}, levelS w out bs = some (w', k) → k.length = out.length + bs.length
  | [], w, out, w', k, h => by simp [levelS] at h; rw [h.2]; rfl
  | b :: bs, w, out, w', k, h => by
    rw [levelS] at h
    split at h
    · cases h
    · have := levelS_len h
      simp at this ⊢; omega
theorem leavesS_len : ∀ {bs : List (List GPair)} {w : GWork} {out : List GKid} {w' : GWork} {k : List GKid}, leavesS w out bs = some (w', k) → k.length = out.length + bs.length
  | [], w, out, w', k, h => by simp [leavesS] at h; rw [h.2]; rfl
  | b :: bs, w, out, w', k, h => by
    rw [leavesS] at h
    split at h
    · cases h
    · have := leavesS_len h
      simp at this ⊢; omega
theorem levelsS_stop {f : Nat} {w : GWork} {k : List GKid} (h : ¬ 1 < k.length) : levelsS f w k = some (w, k) := by
  cases f with
  | zero => rfl
  | succ f => rw [levelsS, if_neg h]
end Go.Rx

namespace Go.Rx
open Go

/-! what a tree that is built owns: where its usable pages begin, and how long its lists are -/
def niceO (o : OW) : Prop := o.uo ≤ o.ua.length ∧ o.ua.length ≤ 1048576 ∧ smallW o.work ∧ okGWork o.work
theorem putN_ok {w w' : GWork} {n : GNode} {p : Int} (h : okGWork w) (hs : smallW w) (hp : putN w n = some (w', p)) : okGWork w' := by
  have hs' := putN_small hs hp
  obtain ⟨⟨s1, s2⟩, s3, s4, s5⟩ := hs'
  refine ⟨?_, by simp only [LEN]; omega, by simp only [LEN]; omega, ?_⟩
  · obtain ⟨g1, _⟩ := giveP_small hs
    unfold putN at hp
    split at hp
    · split at hp
      · cases hp
      · split at hp
        · cases hp
        · rename_i d hd
          simp only [Option.some.injEq, Prod.mk.injEq] at hp
          obtain ⟨rfl, rfl⟩ := hp
          unfold writePage at hd
          split at hd
          · rename_i hc
            obtain rfl := Option.some.inj hd
            rw [g1] at s1 s2 ⊢
            obtain ⟨⟨h1, h2⟩, h3, h4⟩ := h.1
            refine ⟨⟨h1, h2⟩, ?_, fun q hq => ?_⟩
            · simp only [LEN] at s2 ⊢; omega
            · simp only [List.mem_append, List.mem_singleton] at hq
              rcases hq with hq | rfl
              · exact h4 q hq
              · show (nodeText n).length ≤ _
                have := hc.2.2.1
                simp only [LEN]; omega
          · cases hd
    · cases hp
  · have := hs.1.2
    simp only [LEN]; omega
theorem giveO_nice {w : GWork} (h : smallW w) : (giveO w).1.uo ≤ (giveO w).1.ua.length ∧ (giveO w).1.ua.length ≤ 1048576 := by
  have h2 := h.2.1
  unfold giveO
  split
  · rename_i u us hu
    rw [hu] at h2
    exact ⟨by simp, h2⟩
  · split <;> exact ⟨by simp [ofW], h2⟩
theorem ofW_nice {w : GWork} (h : smallW w) (hk : okGWork w) : niceO (ofW w) := ⟨Nat.zero_le _, h.2.1, h, hk⟩
theorem putO_nice {w : GWork} {n : GNode} (h : smallW w) (hk : okGWork w) : niceO (putO w n).1 := by
  cases hp : putN w n with
  | none => rw [putO, hp]; exact ofW_nice h hk
  | some q =>
    obtain ⟨w', p⟩ := q
    obtain ⟨e1, _⟩ := putO_eq hp
    have g := giveO_nice h
    refine ⟨?_, ?_, by rw [e1]; exact putN_small h hp, by rw [e1]; exact putN_ok hk h hp⟩
    · rw [putO, hp]; exact g.1
    · rw [putO, hp]; exact g.2
theorem chPut_nice {c : Ch} {n : GNode} (h : niceO c.w) : niceO (chPut c n).1.w := by
  unfold chPut
  cases c.bad with
  | true => exact h
  | false =>
    cases decide ((putO c.w.work n).2 = 0) with
    | true => exact h
    | false => exact putO_nice h.2.2.1 h.2.2.2
theorem leavesA_nice : ∀ {bs : List (List GPair)} {c : Ch} {out : List GKid}, niceO c.w → niceO (leavesA c out bs).1.w
  | [], c, out, h => h
  | b :: bs, c, out, h => by
    rw [leavesA]
    have h2 := chPut_nice (n := leafB b) h
    cases (chPut c (leafB b)).1.bad with
    | true => exact h2
    | false => exact leavesA_nice h2
theorem levelA_nice : ∀ {bs : List (List GKid)} {c : Ch} {out : List GKid}, niceO c.w → niceO (levelA c out bs).1.w
  | [], c, out, h => h
  | b :: bs, c, out, h => by
    rw [levelA]
    exact levelA_nice (chPut_nice (n := kidB b) h)
theorem levelsA_nice : ∀ {f : Nat} {c : Ch} {k : List GKid}, niceO c.w → niceO (levelsA f c k).1.w
  | 0, c, k, h => h
  | f + 1, c, k, h => by
    rw [levelsA]
    split
    · exact levelsA_nice (levelA_nice h)
    · exact h
theorem buildI_nice {w : GWork} {l : List GPair} (h : smallW w) (hk : okGWork w) : niceO (buildI w l).1 := by
  have h0 := ofW_nice h hk
  have h1 : niceO (buildR w l).1.w := levelsA_nice (leavesA_nice (c := ⟨ofW w, false⟩) h0)
  unfold buildI
  cases decide (ascK (l.map (·.fKey))) with
  | false => exact h0
  | true =>
    cases (buildR w l).1.bad with
    | true => exact h0
    | false => exact h1
end Go.Rx

namespace Go.Rx
open Go Go.RowKit Go.ChangeShapes Go.WideShapes Go.ChangeAt

section
variable {H : Type} {enc : TypeId × Value → H} {P : Program}

theorem trodAll_below (hl : laidOutB P = true) {W W' : World} (hb : Below W.heap.size W W') : ∀ {ts : List TypeId} {vs : List Value} {ds : List (DataW H)} {ps : List MemPlace},
    (∀ t ∈ ts, P.readableRec t = true ∧ t < P.types.size) → DataW.TrodAll enc P W 0 (fun _ => true) true ts vs ds ps → (∀ x ∈ ps, x.block < W.heap.size) →
    DataW.TrodAll enc P W' 0 (fun b => decide (b < W.heap.size)) true ts vs ds ps
  | [], [], [], ps, _, h, _ => h
  | [], [], _ :: _, _, _, h, _ => h.elim
  | [], _ :: _, _, _, _, h, _ => h.elim
  | _ :: _, [], _, _, _, h, _ => h.elim
  | _ :: _, _ :: _, [], _, _, h, _ => h.elim
  | t :: ts, v :: vs, d :: ds, ps, ht, ⟨p, q, h1, h2, e⟩, hlt =>
    ⟨p, q, Below.trod hl (ht t (by simp)).1 (ht t (by simp)).2 h1 hb (fun x hx => hlt x (by rw [e]; simp [hx])),
      trodAll_below hl hb (fun t' h' => ht t' (by simp [h'])) h2 (fun x hx => hlt x (by rw [e]; simp [hx])), e⟩

/-- A law whose contract says: true. -/
theorem law_calls {n : FuncId} {f : Func} {s : ChangeSpec} {W : World} {args : Array Value} {ds : List (DataW H)} {before : List MemPlace} {t : TypeId} {xs : List D} {outs : List V}
    (hl : laidOutB P = true) (hts : ∀ t ∈ f.params.toList, P.readableRec t = true ∧ t < P.types.size) (hres : f.resultTypes = #[t]) (hbool : P.underlying t = some .bool) (hvars : s.vars = [])
    (hr : (s.fn H ds).results = [.lit (.bool true)]) (ha : (s.fn H ds).args = ds) (hv : (s.fn H ds).vars = [])
    (hW : DataW.Whole enc P f.params.toList s.vars false W args.toList ds [] before)
    (hc : CallOK P n (xs.map .d) [] outs (.d (.bool true)) [])
    (hlen : xs.length = args.toList.length) (hx : ∀ (i : Nat) x v, xs[i]? = some x → args.toList[i]? = some v → DRel W (fun b => b < W.heap.size) x v) :
    Calls P n args W fun e W' => ∃ v, e = .returned v ∧ s.post enc P f false true false false W args v W' := by
  have h0 := hc.2 W args.toList (fun _ => none) (fun b => b < W.heap.size)
    ⟨fun n n' b h => absurd rfl h, fun n b h => absurd rfl h, fun n b h => absurd rfl h, fun b h => h, fun n o h => by cases h⟩ (by simpa using hlen) (fun i x v h1 h2 => by
      rw [List.getElem?_map] at h1
      cases hxi : xs[i]? with
      | none => rw [hxi] at h1; cases h1
      | some y => rw [hxi] at h1; cases h1; exact .d (hx i y v hxi h2))
  have h0' : Calls P n args W _ := h0
  refine h0'.mono fun e W' ⟨v, lam', ok', he, hf, _, hrel, _⟩ => ?_
  cases hrel with | d hd =>
  cases hd with | bool =>
  have hb : Below W.heap.size W W' := ⟨hf.os, hf.tape, hf.output, hf.size, fun k hk => hf.block k hk (fun ⟨n, h1, _⟩ => h1 rfl)⟩
  refine ⟨_, he, ds, [], before, [], before, [], hW, ?_, ?_, ?_, hb.frame _, fun h => by cases h⟩
  · rw [hres, List.append_nil, hr]
    exact trodAll_mk1 (shut_bool hbool true)
  · obtain ⟨p, q, h1, h2, rfl, _⟩ := hW
    rw [hvars] at h2
    obtain ⟨_, rfl⟩ := trodVars_none h2
    rw [List.append_nil, ha, List.append_nil]
    refine trodAll_below hl hb hts h1 fun x hx => ?_
    exact DataW.TrodAll.lt h1 x hx
  · rw [hvars, List.append_nil, hv]; rfl


/-! what is handed in, read as data, by its type -/
def Opn (P : Program) (enc : TypeId × Value → H) (t : TypeId) {α : Type} (cells : α → List D) (ok : α → Prop) : Prop :=
  ∀ (W : World) (n : Nat) (vs : List Value) (y : DataW H × List MemPlace), DataW.trod enc P W 0 (fun _ => true) true n t vs = some y →
    ∃ a, Rel2 (DRel W (fun b => b < W.heap.size)) (cells a) vs ∧ ok a

theorem rel2_one {W : World} {ok : Nat → Prop} {d : D} {v : Value} (h : DRel W ok d v) : Rel2 (DRel W ok) [d] [v] := Rel2.cons h (Rel2.nil _)

theorem opn_int {t : TypeId} {k : IntKind} (ht : P.underlying t = some (.int k)) : Opn P enc t (fun n : Int => [.int k n]) (fun _ => True) := fun W n vs y h => by
  obtain ⟨x, rfl, _, _⟩ := DataW.trod_int ht h
  exact ⟨x, rel2_one (.int k x), trivial⟩
theorem opn_byte {t : TypeId} (ht : P.underlying t = some (.int .u8)) : Opn P enc t byteCell (fun _ => True) := fun W n vs y h => by
  obtain ⟨k, rfl, _, hw⟩ := DataW.trod_int ht h
  simp only [Lit.wf, Bool.and_eq_true, decide_eq_true_eq] at hw
  have h1 : IntKind.u8.min = 0 := rfl
  have h2 : IntKind.u8.max = 255 := rfl
  rw [h1, h2] at hw
  have : k = ((UInt8.ofNat k.toNat).toNat : Int) := by simp; omega
  refine ⟨UInt8.ofNat k.toNat, ?_, trivial⟩
  unfold byteCell
  rw [← this]
  exact rel2_one (.int _ _)
theorem opn_bool {t : TypeId} (ht : P.underlying t = some .bool) : Opn P enc t (fun b : Bool => [.bool b]) (fun _ => True) := fun W n vs y h => by
  obtain ⟨b, rfl, _⟩ := DataW.trod_bool ht h
  exact ⟨b, rel2_one (.bool b), trivial⟩
theorem opn_str {t : TypeId} (ht : P.underlying t = some .string) : Opn P enc t (fun s : List UInt8 => [.str s]) (fun s => s.length ≤ LEN) := fun W n vs y h => by
  obtain ⟨s, rfl, _, hs⟩ := DataW.trod_string ht h
  have hmax : maxLen = LEN := rfl
  exact ⟨s.data.toList, rel2_one (.str _ (hmax ▸ (by simpa using hs))), hmax ▸ (by simpa using hs)⟩

theorem opn_slice {t e : TypeId} {m : Nat} {α : Type} [Inhabited α] {cells : α → List D} {ok : α → Prop} (ht : P.underlying t = some (.slice e)) (ce : P.cellsOf e = m) (hm : 0 < m) (hcl : ∀ a, (cells a).length = m) (ho : Opn P enc e cells ok) :
    Opn P enc t (fun l : List α => [.sl (l.map cells)]) (fun l => l.length ≤ LEN ∧ ∀ a ∈ l, ok a) := fun W n vs y h => by
  rcases Go.Deep.open_slice ht h with ⟨rfl, _⟩ | ⟨a, len, cap, k, n', D0, Pl, rfl, _, hl, hmx, hk, _, hx⟩
  · exact ⟨[], rel2_one (.sl0 none 0), by simp, by simp⟩
  have hmax : maxLen = LEN := rfl
  simp only [if_true] at hk
  subst hk
  by_cases hlen : len = 0
  · subst hlen
    exact ⟨[], rel2_one (.sl0 _ _), by simp, by simp⟩
  have each : ∀ i, i < k → ∃ q : α × List Value, W.cells? 0 (a.add (i * m)) m = some q.2 ∧ Rel2 (DRel W (fun b => b < W.heap.size)) (cells q.1) q.2 ∧ ok q.1 := fun i hi => by
    obtain ⟨cs', g1, g2⟩ := hx i hi
    rw [ce] at g1
    obtain ⟨b, hb, hob⟩ := ho W n' cs' _ g2
    exact ⟨(b, cs'), g1, hb, hob⟩
  obtain ⟨q, hq⟩ := Go.Deep.choose_lt each
  obtain ⟨b, o, sp⟩ := a
  have hfirst : W.cell? ⟨b, o, sp⟩ = (q 0).2[0]? := by
    have := (World.cells?_some (hq 0 (by omega)).1).2.2 0 hm
    rw [Nat.zero_mul] at this
    simpa [Addr.add] using this
  have hq0 := (World.cells?_some (hq 0 (by omega)).1).2.1
  have hsome : ∃ v, (q 0).2[0]? = some v := ⟨(q 0).2[0]'(by omega), by simp⟩
  obtain ⟨v0, hv0⟩ := hsome
  rw [hv0] at hfirst
  have hsp : sp = none := by
    unfold World.cell? at hfirst
    split at hfirst
    · cases sp with
      | none => rfl
      | some x => simp at hfirst
    · cases hfirst
  subst hsp
  have hblt : b < W.heap.size := by
    rcases Nat.lt_or_ge b W.heap.size with h | h
    · exact h
    · simp [World.cell?, h] at hfirst
  let xs : List α := (List.range len).map fun i => (q i).1
  have hxl : xs.length = len := by simp [xs]
  have hget : ∀ (i : Nat) e, (xs.map cells)[i]? = some e → i < len ∧ e = cells (q i).1 := fun i e hi => by
    simp only [xs, List.map_map, List.getElem?_map] at hi
    rcases Nat.lt_or_ge i len with hil | hil
    · rw [List.getElem?_range hil] at hi
      simp only [Option.map_some, Option.some.injEq, Function.comp_apply] at hi
      exact ⟨hil, hi.symm⟩
    · rw [List.getElem?_eq_none (by simpa using hil)] at hi; cases hi
  have hcell : ∀ i, i < len → ∀ j, j < m → W.cell? ⟨b, o + (i * m + j), none⟩ = (q i).2[j]? := fun i hi j hj => by
    have := (World.cells?_some (hq i (by omega)).1).2.2 j hj
    rw [Go.Deep.add_add, add_plain] at this
    exact this
  have hdiv : ∀ i j, j < m → (i * m + j) / m = i ∧ (i * m + j) % m = j := fun i j hj => by
    constructor
    · rw [Nat.mul_comm, Nat.mul_add_div hm, Nat.div_eq_of_lt hj, Nat.add_zero]
    · rw [Nat.mul_comm, Nat.mul_add_mod, Nat.mod_eq_of_lt hj]
  have hjm : ∀ (i : Nat) e (j : Nat) d, (xs.map cells)[i]? = some e → e[j]? = some d → j < m := fun i e j d hi hj => by
    obtain ⟨_, rfl⟩ := hget i e hi
    have := (List.getElem?_eq_some_iff.1 hj).1
    rw [hcl] at this; exact this
  refine ⟨xs, rel2_one ?_, by rw [hxl]; omega, fun x hx' => ?_⟩
  · have key := DRel.sl (w := W) (ok := fun b => b < W.heap.size) (xs.map cells) m b o k (fun k => ((q (k / m)).2[k % m]?).getD undef)
      (by rw [List.length_map, hxl]; exact hl) (by rw [List.length_map, hxl]; omega) hblt (fun e he => by
        obtain ⟨x, _, rfl⟩ := List.mem_map.1 he; exact hcl x) (fun i e j d hi hj => by
        have hj' := hjm i e j d hi hj
        obtain ⟨hil, rfl⟩ := hget i e hi
        obtain ⟨e1, e2⟩ := hdiv i j hj'
        rw [e1, e2, hcell i hil j hj']
        have hl2 := (World.cells?_some (hq i (by omega)).1).2.1
        rw [List.getElem?_eq_getElem (by omega)]; rfl) (fun i e j d hi hj => by
        have hj' := hjm i e j d hi hj
        obtain ⟨hil, rfl⟩ := hget i e hi
        obtain ⟨e1, e2⟩ := hdiv i j hj'
        rw [e1, e2]
        have hl2 := (World.cells?_some (hq i (by omega)).1).2.1
        have hr := (hq i (by omega)).2.1
        refine hr.2 j d _ hj ?_
        rw [List.getElem?_eq_getElem (by omega)]; rfl)
    rw [List.length_map, hxl] at key
    exact key
  · obtain ⟨i, hi, rfl⟩ := List.mem_map.1 hx'
    exact (hq i (by have := List.mem_range.1 hi; omega)).2.2

/-- The fields of a struct, one behind the other, from place k on, over m cells. -/
def OpnFs (P : Program) (enc : TypeId × Value → H) (fs : List Field) (k m : Nat) {α : Type} (cells : α → List D) (ok : α → Prop) : Prop :=
  ∀ (W : World) (n : Nat) (vs : List Value), vs.length = m → (∀ f ∈ fs, ∃ y, DataW.trod enc P W 0 (fun _ => true) true n f.type ((vs.drop (f.offset - k)).take (P.cellsOf f.type)) = some y) →
    ∃ a, Rel2 (DRel W (fun b => b < W.heap.size)) (cells a) vs ∧ ok a
theorem opnFs_nil {k : Nat} : OpnFs P enc [] k 0 (fun _ : Unit => []) (fun _ => True) := fun W n vs hl _ => by
  obtain rfl := List.length_eq_zero_iff.1 hl
  exact ⟨(), Rel2.nil _, trivial⟩
theorem rel2_app {W : World} {ok : Nat → Prop} : ∀ {xs ys : List D} {vs ws : List Value}, Rel2 (DRel W ok) xs vs → Rel2 (DRel W ok) ys ws → Rel2 (DRel W ok) (xs ++ ys) (vs ++ ws)
  | [], ys, vs, ws, h1, h2 => by rw [h1.nil_left]; exact h2
  | x :: xs, ys, vs, ws, h1, h2 => by
    obtain ⟨v, vs', rfl, hv, hm⟩ := h1.uncons
    exact Rel2.cons hv (rel2_app hm h2)
theorem opnFs_cons {f : Field} {fs : List Field} {k c m : Nat} {α β : Type} {ca : α → List D} {cb : β → List D} {oa : α → Prop} {ob : β → Prop} (hf : f.offset = k) (hc : P.cellsOf f.type = c) (ha : Opn P enc f.type ca oa)
    (hfs : ∀ g ∈ fs, k + c ≤ g.offset) (hb : OpnFs P enc fs (k + c) m cb ob) : OpnFs P enc (f :: fs) k (c + m) (fun p : α × β => ca p.1 ++ cb p.2) (fun p => oa p.1 ∧ ob p.2) := fun W n vs hl h => by
  obtain ⟨y, hy⟩ := h f (by simp)
  rw [hf, Nat.sub_self, List.drop_zero, hc] at hy
  obtain ⟨a, ha1, ha2⟩ := ha W n _ y hy
  obtain ⟨b, hb1, hb2⟩ := hb W n (vs.drop c) (by simp; omega) (fun g hg => by
    obtain ⟨z, hz⟩ := h g (by simp [hg])
    have := hfs g hg
    refine ⟨z, ?_⟩
    rw [List.drop_drop, show c + (g.offset - (k + c)) = g.offset - k by omega]
    exact hz)
  refine ⟨(a, b), ?_, ha2, hb2⟩
  have := rel2_app ha1 hb1
  rwa [List.take_append_drop] at this
theorem opn_struct {t : TypeId} {fs : Array Field} {m : Nat} {α : Type} {cells : α → List D} {ok : α → Prop} (ht : P.underlying t = some (.struct fs)) (hm : P.cellsOf t = m) (h : OpnFs P enc fs.toList 0 m cells ok) : Opn P enc t cells ok := fun W n vs y hy => by
  obtain ⟨xs, n', rfl, _, hl, hxl, hf⟩ := DataW.trod_struct ht hy
  refine h W n' vs (hl.trans hm) fun f hfm => ?_
  obtain ⟨i, hi, rfl⟩ := List.getElem_of_mem hfm
  have hi' : i < fs.size := by simpa using hi
  have := hf i fs[i] (by simp [hi'])
  refine ⟨xs[i]'(by omega), ?_⟩
  rw [Nat.sub_zero]
  rw [List.getElem?_eq_getElem (by omega)] at this
  simpa using this
theorem opn_map {t : TypeId} {α β : Type} {ca : α → List D} {oa : α → Prop} {cb : β → List D} {ob : β → Prop} (h : Opn P enc t ca oa) (g : α → β) (hg : ∀ a, cb (g a) = ca a) (ho : ∀ a, oa a → ob (g a)) : Opn P enc t cb ob := fun W n vs y hy => by
  obtain ⟨a, h1, h2⟩ := h W n vs y hy
  exact ⟨g a, by rw [hg]; exact h1, ho a h2⟩
/-- A struct that is handed in. -/
theorem opn_agg {W : World} {r : Go.Reach} {base : Nat} {t : TypeId} {fs : Array Field} {v : Value} {d : DataW H} {ps : List MemPlace} {α : Type} {cells : α → List D} {ok : α → Prop} (ht : P.underlying t = some (.struct fs)) (ho : Opn P enc t cells ok)
    (hv : Value.okWide P W r base t v) (h : DataW.Trod enc P W 0 (fun _ => true) true t v d ps) : ∃ a, DRel W (fun b => b < W.heap.size) (.agg (cells a)) v ∧ ok a := by
  obtain ⟨fuel, h⟩ := h
  simp only [Value.okWide, ht] at hv
  obtain ⟨cs, rfl, _⟩ := hv
  obtain ⟨cs⟩ := cs
  obtain ⟨a, h1, h2⟩ := ho W fuel _ _ h
  exact ⟨a, .agg _ _ h1.1 h1.2, h2⟩
/-- One cell that is handed in. -/
theorem opn_cell {W : World} {t : TypeId} {v : Value} {d : DataW H} {ps : List MemPlace} {α : Type} {cell : α → D} {ok : α → Prop} (ho : Opn P enc t (fun a => [cell a]) ok) (hc : v.cells.toList = [v])
    (h : DataW.Trod enc P W 0 (fun _ => true) true t v d ps) : ∃ a, DRel W (fun b => b < W.heap.size) (cell a) v ∧ ok a := by
  obtain ⟨fuel, h⟩ := h
  rw [hc] at h
  obtain ⟨a, h1, h2⟩ := ho W fuel _ _ h
  exact ⟨a, h1.2 0 _ _ rfl rfl, h2⟩
end
end Go.Rx

namespace Go.Rx
open Go
attribute [local irreducible] Req Way WayG Sel callVC CallOK
set_option linter.unusedSimpArgs false
set_option linter.unusedVariables false

@[go_sem] def tysZ : Tys
  | 2 => some ⟨1, 8, .int .i64, [.d (.int .i64 0)]⟩
  | 3 => some ⟨1, 8, .int .i64, [.d (.int .i64 0)]⟩
  | 4 => some ⟨1, 1, .bool, [.d (.bool false)]⟩
  | 5 => some ⟨1, 1, .int .u8, [.d (.int .u8 0)]⟩
  | 6 => some ⟨1, 1, .int .u8, [.d (.int .u8 0)]⟩
  | 9 => some ⟨1, 16, .str, [.d (.str [])]⟩
  | 10 => some ⟨1, 16, .str, [.d (.str [])]⟩
  | 11 => some ⟨1, 16, .str, [.d (.str [])]⟩
  | 12 => some ⟨1, 8, .int .u64, [.d (.int .u64 0)]⟩
  | 15 => some ⟨1, 8, .ptr, [.d .nilp]⟩
  | 16 => some ⟨1, 8, .ptr, [.d .nilp]⟩
  | 17 => some ⟨1, 8, .ptr, [.d .nilp]⟩
  | 21 => some ⟨1, 4, .int .i32, [.d (.int .i32 0)]⟩
  | 22 => some ⟨1, 24, .slice 9, [.nils 1]⟩
  | 23 => some ⟨1, 24, .slice 133, [.nils 2]⟩
  | 24 => some ⟨2, 48, .struct [(0, 22), (1, 23)], [.nils 1, .nils 2]⟩
  | 25 => some ⟨2, 48, .struct [(0, 22), (1, 23)], [.nils 1, .nils 2]⟩
  | 26 => some ⟨1, 24, .slice 3, [.nils 1]⟩
  | 27 => some ⟨6, 128, .struct [(0, 25), (2, 3), (3, 26), (4, 26), (5, 26)], [.nils 1, .nils 2, .d (.int .i64 0), .nils 1, .nils 1, .nils 1]⟩
  | 28 => some ⟨6, 128, .struct [(0, 25), (2, 3), (3, 26), (4, 26), (5, 26)], [.nils 1, .nils 2, .d (.int .i64 0), .nils 1, .nils 1, .nils 1]⟩
  | 29 => some ⟨1, 24, .slice 65, [.nils 2]⟩
  | 32 => some ⟨1, 24, .slice 138, [.nils 2]⟩
  | 33 => some ⟨2, 48, .struct [(0, 22), (1, 32)], [.nils 1, .nils 2]⟩
  | 34 => some ⟨2, 48, .struct [(0, 22), (1, 32)], [.nils 1, .nils 2]⟩
  | 35 => some ⟨6, 128, .struct [(0, 34), (2, 3), (3, 26), (4, 26), (5, 26)], [.nils 1, .nils 2, .d (.int .i64 0), .nils 1, .nils 1, .nils 1]⟩
  | 36 => some ⟨6, 128, .struct [(0, 34), (2, 3), (3, 26), (4, 26), (5, 26)], [.nils 1, .nils 2, .d (.int .i64 0), .nils 1, .nils 1, .nils 1]⟩
  | 40 => some ⟨1, 24, .slice 58, [.nils 2]⟩
  | 47 => some ⟨1, 24, .slice 5, [.nils 1]⟩
  | 53 => some ⟨1, 24, .slice 94, [.nils 2]⟩
  | 54 => some ⟨4, 48, .struct [(0, 3), (1, 3), (2, 3), (3, 53)], [.d (.int .i64 0), .d (.int .i64 0), .d (.int .i64 0), .nils 2]⟩
  | 55 => some ⟨4, 48, .struct [(0, 3), (1, 3), (2, 3), (3, 53)], [.d (.int .i64 0), .d (.int .i64 0), .d (.int .i64 0), .nils 2]⟩
  | 57 => some ⟨2, 32, .struct [(0, 9), (1, 9)], [.d (.str []), .d (.str [])]⟩
  | 58 => some ⟨2, 32, .struct [(0, 9), (1, 9)], [.d (.str []), .d (.str [])]⟩
  | 65 => some ⟨2, 32, .struct [(0, 9), (1, 9)], [.d (.str []), .d (.str [])]⟩
  | 67 => some ⟨4, 80, .struct [(0, 4), (1, 22), (2, 22), (3, 26)], [.d (.bool false), .nils 1, .nils 1, .nils 1]⟩
  | 68 => some ⟨4, 80, .struct [(0, 4), (1, 22), (2, 22), (3, 26)], [.d (.bool false), .nils 1, .nils 1, .nils 1]⟩
  | 75 => some ⟨1, 8, .ptr, [.d .nilp]⟩
  | 76 => some ⟨7, 136, .struct [(0, 36), (6, 4)], [.nils 1, .nils 2, .d (.int .i64 0), .nils 1, .nils 1, .nils 1, .d (.bool false)]⟩
  | 77 => some ⟨7, 136, .struct [(0, 36), (6, 4)], [.nils 1, .nils 2, .d (.int .i64 0), .nils 1, .nils 1, .nils 1, .d (.bool false)]⟩
  | 78 => some ⟨1, 24, .slice 82, [.nils 2]⟩
  | 81 => some ⟨2, 24, .struct [(0, 9), (1, 3)], [.d (.str []), .d (.int .i64 0)]⟩
  | 82 => some ⟨2, 24, .struct [(0, 9), (1, 3)], [.d (.str []), .d (.int .i64 0)]⟩
  | 89 => some ⟨1, 8, .ptr, [.d .nilp]⟩
  | 93 => some ⟨2, 32, .struct [(0, 3), (1, 26)], [.d (.int .i64 0), .nils 1]⟩
  | 94 => some ⟨2, 32, .struct [(0, 3), (1, 26)], [.d (.int .i64 0), .nils 1]⟩
  | 117 => some ⟨3, 40, .struct [(0, 47), (1, 3), (2, 3)], [.nils 1, .d (.int .i64 0), .d (.int .i64 0)]⟩
  | 118 => some ⟨3, 40, .struct [(0, 47), (1, 3), (2, 3)], [.nils 1, .d (.int .i64 0), .d (.int .i64 0)]⟩
  | 119 => some ⟨1, 8, .int .u64, [.d (.int .u64 0)]⟩
  | 127 => some ⟨1, 8, .ptr, [.d .nilp]⟩
  | 129 => some ⟨5, 80, .struct [(0, 40), (1, 26), (2, 26), (3, 4), (4, 4)], [.nils 2, .nils 1, .nils 1, .d (.bool false), .d (.bool false)]⟩
  | 130 => some ⟨5, 80, .struct [(0, 40), (1, 26), (2, 26), (3, 4), (4, 4)], [.nils 2, .nils 1, .nils 1, .d (.bool false), .d (.bool false)]⟩
  | 132 => some ⟨2, 24, .struct [(0, 3), (1, 9)], [.d (.int .i64 0), .d (.str [])]⟩
  | 133 => some ⟨2, 24, .struct [(0, 3), (1, 9)], [.d (.int .i64 0), .d (.str [])]⟩
  | 138 => some ⟨2, 24, .struct [(0, 3), (1, 9)], [.d (.int .i64 0), .d (.str [])]⟩
  | 144 => some ⟨1, 8, .ptr, [.d .nilp]⟩
  | 145 => some ⟨3, 32, .struct [(0, 9), (1, 3), (2, 4)], [.d (.str []), .d (.int .i64 0), .d (.bool false)]⟩
  | 146 => some ⟨3, 32, .struct [(0, 9), (1, 3), (2, 4)], [.d (.str []), .d (.int .i64 0), .d (.bool false)]⟩
  | 156 => some ⟨1, 4, .int .u32, [.d (.int .u32 0)]⟩
  | 170 => some ⟨1, 8, .ptr, [.d .nilp]⟩
  | 172 => some ⟨3, 32, .struct [(0, 9), (1, 3), (2, 4)], [.d (.str []), .d (.int .i64 0), .d (.bool false)]⟩
  | _ => none
theorem tysZOK : TyOK Go.Proofs.Try.prog tysZ := by
  refine tyOK_of fun t i h => ?_
  unfold tysZ at h
  split at h <;> first | (cases h; kernel_rfl) | cases h

theorem mixedZ : Go.Proofs.Try.prog.follows .mixedOrders = true := by kernel_rfl

end Go.Rx

namespace Go.Rx
open Go
attribute [local irreducible] Req Way WayG Sel callVC CallOK
set_option linter.unusedSimpArgs false
set_option linter.unusedVariables false
@[go_sem] def hr26 : Hints
  | 0 => [0, 1] | 1 => [0, 1] | 2 => [1] | 3 => [] | 4 => [1] | _ => []
@[go_sem] def hl26 : Hints := fun _ => []
attribute [go_sem] Go.Proofs.Try.results26
theorem c26 (l : List Int) (left : Int) : CallOK Go.Proofs.Try.prog 26 [.d (.sl (ints l)), .d (.int .i64 left)] [] [.dead, .dead] (.d (.int .i64 (szFl l left))) [] := by
  refine call_of tysZOK mixedZ Go.Proofs.Try.func26 (by kernel_rfl) rfl (np := [false, false]) (by kernel_rfl) hr26 hl26 (by simp [Go.Proofs.Try.ntmps26]) ?_
  simp -implicitDefEqProofs (maxSteps := 3000000) only [go_sem, reduceCtorEq, ints_length]
  refine way_dec (fun h1 => ?_) (fun h1 => ?_)
  · simp -implicitDefEqProofs (maxSteps := 3000000) only [go_sem, reduceCtorEq]
    simp [szFl, sub64, h1]
  · simp -implicitDefEqProofs (maxSteps := 3000000) only [go_sem, reduceCtorEq]
    simp [szFl, sub64, h1]
theorem k26 {h : Heap} {tb : Nat} {K : OK} {args : List V} {ls : List Nat} (l : List Int) (left : Int) (hg : toDs h args = some ([.sl (ints l), .int .i64 left], ls))
    (hk : K (.d (.int .i64 (szFl l left))) []) : callVC Go.Proofs.Try.prog h tb 26 args K :=
  call_free hg (c26 l left) rfl (.inr ⟨.d (.int _ _), flatH_nil⟩) hk
@[go_sem] def hr31 : Hints
  | 0 => [0] | 1 => [0] | 2 => [0, 3] | 3 => [0, 3, 4] | 4 => [0, 3, 4] | 5 => [0, 3, 4] | 6 => [3] | _ => []
@[go_sem] def hl31 : Hints
  | 3 => [0, 3, 4] | _ => []
attribute [go_sem] Go.Proofs.Try.results31
theorem c31 (l : List Int) (hl : l.length ≤ 1048576) : CallOK Go.Proofs.Try.prog 31 [.d (.sl (ints l))] [] [.dead] (.d (.sl (ints l))) [] := by
  have hl1 := hl
  refine freeze_own (m := 1) (n := l.length) ?_ ints_length.symm rfl
  refine call_of tysZOK mixedZ Go.Proofs.Try.func31 (by kernel_rfl) rfl (np := [false]) (by kernel_rfl) hr31 hl31 (by simp [Go.Proofs.Try.ntmps31]) ?_
  simp -implicitDefEqProofs (maxSteps := 3000000) only [go_sem, reduceCtorEq, ints_length]
  repeat ((first | refine req (by first | assumption | omega) ?_); simp -implicitDefEqProofs (maxSteps := 3000000) only [go_sem, reduceCtorEq, ints_length])
  rw [ints_zero]
  refine loop_data (α := Nat × List (Int)) (fun x => ⟨[(0, .d (.sl (ints l))), (3, .own 0 0 l.length), (4, .d (.int .i64 x.1))], [(0, some (.arr 1 (ints x.2)))]⟩)
    (fun x => x.1 ≤ l.length ∧ x.2.length = l.length ∧ x.2.take x.1 = l.take x.1) (fun x => l.length - x.1) (0, _) rfl ⟨Nat.zero_le _, by simp, by simp⟩ ?_
  rintro ⟨i, m⟩ ⟨h2, h3, h4⟩
  simp only at h2 h3 h4
  simp -implicitDefEqProofs (maxSteps := 3000000) only [go_sem, reduceCtorEq, ints_length]
  refine way_dec (fun h5 => ?_) (fun h5 => ?_)
  · obtain ⟨p, hp⟩ := some_at h5
    obtain ⟨q, hq⟩ := some_at (l := m) (h3 ▸ h5)
    simp -implicitDefEqProofs (maxSteps := 3000000) only [go_sem, reduceCtorEq, ints_length, lget_ints hp]
    repeat ((first | refine req (by first | assumption | omega) ?_); simp -implicitDefEqProofs (maxSteps := 3000000) only [go_sem, reduceCtorEq, ints_length, lget_ints hp, lget_ints hq])
    rw [wrap_succ (by simp only [LEN]; omega)]
    try rw [ints_set]
    refine next_data (i + 1, m.set i p) rfl ⟨?_, by simpa using h3, take_set hp h3 h4⟩ ?_
    · simp only; omega
    · simp only; omega
  · simp -implicitDefEqProofs (maxSteps := 3000000) only [go_sem, reduceCtorEq, ints_length]
    rw [List.take_of_length_le (by omega), List.take_of_length_le (by omega)] at h4
    rw [h4]
theorem k31 {h : Heap} {tb : Nat} {K : OK} {args : List V} (l : List Int) (hg : toDs h args = some ([.sl (ints l)], [])) (hl : l.length ≤ 1048576)
    (hk : K (.d (.sl (ints l))) []) : callVC Go.Proofs.Try.prog h tb 31 args K :=
  call_free hg (c31 l hl) rfl (.inl rfl) hk
@[go_sem] def hr38 : Hints
  | 0 => [0, 1] | 1 => [0, 1] | 2 => [] | 3 => [0, 1] | 4 => [0, 1, 5] | 5 => [0, 1, 5] | 6 => [0, 1, 5] | 7 => [] | 8 => [] | _ => []
@[go_sem] def hl38 : Hints
  | 4 => [0, 1, 5] | _ => []
attribute [go_sem] Go.Proofs.Try.results38
theorem c38 (l : List Int) (hl : l.length ≤ LEN) : CallOK Go.Proofs.Try.prog 38 [.d (.sl (ints l)), .d (.sl (ints l))] [] [.dead, .dead] (.d (.bool true)) [] := by
  have hl1 := hl
  refine call_of tysZOK mixedZ Go.Proofs.Try.func38 (by kernel_rfl) rfl (np := [false, false]) (by kernel_rfl) hr38 hl38 (by simp [Go.Proofs.Try.ntmps38]) ?_
  simp -implicitDefEqProofs (maxSteps := 3000000) only [go_sem, reduceCtorEq, ints_length]
  refine loop_data (α := Nat) (fun i => ⟨[(0, .d (.sl (ints l))), (1, .d (.sl (ints l))), (5, .d (.int .i64 i))], []⟩)
    (fun i => i ≤ l.length) (fun i => l.length - i) 0 rfl (Nat.zero_le _) ?_
  rintro i h2
  simp -implicitDefEqProofs (maxSteps := 3000000) only [go_sem, reduceCtorEq, ints_length]
  refine way_dec (fun h5 => ?_) (fun h5 => ?_)
  · obtain ⟨p, hp⟩ := some_at h5
    simp -implicitDefEqProofs (maxSteps := 3000000) only [go_sem, reduceCtorEq, ints_length, lget_ints hp]
    repeat ((first | refine req (by first | assumption | omega | exact commP_of (by kernel_rfl)) ?_); simp -implicitDefEqProofs (maxSteps := 3000000) only [go_sem, reduceCtorEq, ints_length, lget_ints hp, decide_true])
    rw [wrap_succ (by omega)]
    exact next_data (i + 1) rfl (by omega) (by omega)
  · simp -implicitDefEqProofs (maxSteps := 3000000) only [go_sem, reduceCtorEq, ints_length]
theorem k38 {h : Heap} {tb : Nat} {K : OK} {args : List V} {ls : List Nat} (l : List Int) (hg : toDs h args = some ([.sl (ints l), .sl (ints l)], ls)) (hl : l.length ≤ LEN)
    (hk : K (.d (.bool true)) []) : callVC Go.Proofs.Try.prog h tb 38 args K :=
  call_free hg (c38 l hl) rfl (.inr ⟨.d (.bool _), flatH_nil⟩) hk

@[go_sem] def hr56 : Hints
  | 0 => [0, 1] | 1 => [0, 1] | 2 => [0, 1] | 3 => [] | 4 => [0, 1] | 5 => [0, 1, 5] | 6 => [0, 1, 5] | 7 => [0, 1, 5] | 8 => [0, 1, 5] | 9 => [] | 10 => [1] | _ => []
@[go_sem] def hl56 : Hints
  | 5 => [0, 1, 5] | _ => []
attribute [go_sem] Go.Proofs.Try.results56
theorem c56 (l : List (List UInt8)) (left : Int) (hl : okSl (fun s : List UInt8 => s.length ≤ LEN) l) : CallOK Go.Proofs.Try.prog 56 [.d (.sl (strs l)), .d (.int .i64 left)] [] [.dead, .dead] (.d (.int .i64 (szSl szTx l left))) [] := by
  refine call_of tysZOK mixedZ Go.Proofs.Try.func56 (by kernel_rfl) rfl (np := [false, false]) (by kernel_rfl) hr56 hl56 (by simp [Go.Proofs.Try.ntmps56]) ?_
  simp -implicitDefEqProofs (maxSteps := 3000000) only [go_sem, reduceCtorEq, strs_length]
  refine way_dec (fun h1 => ?_) (fun h1 => ?_)
  · simp -implicitDefEqProofs (maxSteps := 3000000) only [go_sem, reduceCtorEq]
    simp [szSl, sub64, h1]
  · simp -implicitDefEqProofs (maxSteps := 3000000) only [go_sem, reduceCtorEq]
    refine loop_data (α := Nat × Int) (fun x => ⟨[(0, .d (.sl (strs l))), (1, .d (.int .i64 x.2)), (5, .d (.int .i64 x.1))], []⟩)
      (fun x => x.1 ≤ l.length ∧ chainL szTx (l.drop x.1) x.2 = szSl szTx l left) (fun x => l.length - x.1) (0, IntKind.i64.wrap (left - l.length)) rfl ⟨Nat.zero_le _, by simp [szSl, sub64, h1]⟩ ?_
    rintro ⟨i, lf⟩ ⟨h2, h3⟩
    simp -implicitDefEqProofs (maxSteps := 3000000) only [go_sem, reduceCtorEq, strs_length]
    refine way_dec (fun h4 => ?_) (fun h4 => ?_)
    · obtain ⟨p, hp⟩ := some_at h4
      rw [drop_cons hp] at h3
      simp -implicitDefEqProofs (maxSteps := 3000000) only [go_sem, reduceCtorEq, strs_length, lget_strs hp]
      repeat ((first | refine req (by first | assumption | omega) ?_); simp -implicitDefEqProofs (maxSteps := 3000000) only [go_sem, reduceCtorEq, strs_length, lget_strs hp])
      refine way_dec (fun h5 => ?_) (fun h5 => ?_)
      · simp -implicitDefEqProofs (maxSteps := 3000000) only [go_sem, reduceCtorEq]
        rw [← h3, chainL_neg (f := szTx) (a := p) (l := lf) h5]
      · simp -implicitDefEqProofs (maxSteps := 3000000) only [go_sem, reduceCtorEq]
        refine next_data (i + 1, szTx p lf) ?_ ⟨?_, ?_⟩ ?_
        · first | (simp only [wrap_succ (show i < LEN by have := hl.1; omega)]; done) | (simp only [wrap_succ (show i < LEN by have := hl.1; omega)]; rfl)
        · simp only; omega
        · rw [← h3]; exact (chainL_pos (f := szTx) (a := p) (l := lf) h5).symm
        · simp only; omega
    · simp -implicitDefEqProofs (maxSteps := 3000000) only [go_sem, reduceCtorEq, strs_length]
      rw [List.drop_eq_nil_of_le (by omega)] at h3
      rw [← h3]; rfl
theorem k56 {h : Heap} {tb : Nat} {K : OK} {args : List V} {ls : List Nat} (l : List (List UInt8)) (left : Int) (hg : toDs h args = some ([.sl (strs l), .int .i64 left], ls)) (hl : okSl (fun s : List UInt8 => s.length ≤ LEN) l)
    (hk : K (.d (.int .i64 (szSl szTx l left))) []) : callVC Go.Proofs.Try.prog h tb 56 args K :=
  call_free hg (c56 l left hl) rfl (.inr ⟨.d (.int _ _), flatH_nil⟩) hk
@[go_sem] def hr61 : Hints
  | 0 => [0] | 1 => [0] | 2 => [0, 3] | 3 => [0, 3, 4] | 4 => [0, 3, 4] | 5 => [0, 3, 4] | 6 => [3] | _ => []
@[go_sem] def hl61 : Hints
  | 3 => [0, 3, 4] | _ => []
attribute [go_sem] Go.Proofs.Try.results61
theorem c61 (l : List (List UInt8)) (hl : l.length ≤ 1048576) : CallOK Go.Proofs.Try.prog 61 [.d (.sl (strs l))] [] [.dead] (.d (.sl (strs l))) [] := by
  have hl1 := hl
  refine freeze_own (m := 1) (n := l.length) ?_ strs_length.symm rfl
  refine call_of tysZOK mixedZ Go.Proofs.Try.func61 (by kernel_rfl) rfl (np := [false]) (by kernel_rfl) hr61 hl61 (by simp [Go.Proofs.Try.ntmps61]) ?_
  simp -implicitDefEqProofs (maxSteps := 3000000) only [go_sem, reduceCtorEq, strs_length]
  repeat ((first | refine req (by first | assumption | omega) ?_); simp -implicitDefEqProofs (maxSteps := 3000000) only [go_sem, reduceCtorEq, strs_length])
  rw [strs_zero]
  refine loop_data (α := Nat × List ((List UInt8))) (fun x => ⟨[(0, .d (.sl (strs l))), (3, .own 0 0 l.length), (4, .d (.int .i64 x.1))], [(0, some (.arr 1 (strs x.2)))]⟩)
    (fun x => x.1 ≤ l.length ∧ x.2.length = l.length ∧ x.2.take x.1 = l.take x.1) (fun x => l.length - x.1) (0, _) rfl ⟨Nat.zero_le _, by simp, by simp⟩ ?_
  rintro ⟨i, m⟩ ⟨h2, h3, h4⟩
  simp only at h2 h3 h4
  simp -implicitDefEqProofs (maxSteps := 3000000) only [go_sem, reduceCtorEq, strs_length]
  refine way_dec (fun h5 => ?_) (fun h5 => ?_)
  · obtain ⟨p, hp⟩ := some_at h5
    obtain ⟨q, hq⟩ := some_at (l := m) (h3 ▸ h5)
    simp -implicitDefEqProofs (maxSteps := 3000000) only [go_sem, reduceCtorEq, strs_length, lget_strs hp]
    repeat ((first | refine req (by first | assumption | omega) ?_); simp -implicitDefEqProofs (maxSteps := 3000000) only [go_sem, reduceCtorEq, strs_length, lget_strs hp, lget_strs hq])
    rw [wrap_succ (by simp only [LEN]; omega)]
    try rw [strs_set]
    refine next_data (i + 1, m.set i p) rfl ⟨?_, by simpa using h3, take_set hp h3 h4⟩ ?_
    · simp only; omega
    · simp only; omega
  · simp -implicitDefEqProofs (maxSteps := 3000000) only [go_sem, reduceCtorEq, strs_length]
    rw [List.take_of_length_le (by omega), List.take_of_length_le (by omega)] at h4
    rw [h4]
theorem k61 {h : Heap} {tb : Nat} {K : OK} {args : List V} (l : List (List UInt8)) (hg : toDs h args = some ([.sl (strs l)], [])) (hl : l.length ≤ 1048576)
    (hk : K (.d (.sl (strs l))) []) : callVC Go.Proofs.Try.prog h tb 61 args K :=
  call_free hg (c61 l hl) rfl (.inl rfl) hk
@[go_sem] def hr66 : Hints
  | 0 => [0, 1] | 1 => [0, 1] | 2 => [] | 3 => [0, 1] | 4 => [0, 1, 5] | 5 => [0, 1, 5] | 6 => [0, 1, 5] | 7 => [] | 8 => [] | _ => []
@[go_sem] def hl66 : Hints
  | 4 => [0, 1, 5] | _ => []
attribute [go_sem] Go.Proofs.Try.results66
theorem c66 (l : List (List UInt8)) (hl : l.length ≤ LEN) : CallOK Go.Proofs.Try.prog 66 [.d (.sl (strs l)), .d (.sl (strs l))] [] [.dead, .dead] (.d (.bool true)) [] := by
  have hl1 := hl
  refine call_of tysZOK mixedZ Go.Proofs.Try.func66 (by kernel_rfl) rfl (np := [false, false]) (by kernel_rfl) hr66 hl66 (by simp [Go.Proofs.Try.ntmps66]) ?_
  simp -implicitDefEqProofs (maxSteps := 3000000) only [go_sem, reduceCtorEq, strs_length]
  refine loop_data (α := Nat) (fun i => ⟨[(0, .d (.sl (strs l))), (1, .d (.sl (strs l))), (5, .d (.int .i64 i))], []⟩)
    (fun i => i ≤ l.length) (fun i => l.length - i) 0 rfl (Nat.zero_le _) ?_
  rintro i h2
  simp -implicitDefEqProofs (maxSteps := 3000000) only [go_sem, reduceCtorEq, strs_length]
  refine way_dec (fun h5 => ?_) (fun h5 => ?_)
  · obtain ⟨p, hp⟩ := some_at h5
    simp -implicitDefEqProofs (maxSteps := 3000000) only [go_sem, reduceCtorEq, strs_length, lget_strs hp]
    repeat ((first | refine req (by first | assumption | omega | exact commP_of (by kernel_rfl)) ?_); simp -implicitDefEqProofs (maxSteps := 3000000) only [go_sem, reduceCtorEq, strs_length, lget_strs hp, decide_true])
    rw [wrap_succ (by omega)]
    exact next_data (i + 1) rfl (by omega) (by omega)
  · simp -implicitDefEqProofs (maxSteps := 3000000) only [go_sem, reduceCtorEq, strs_length]
theorem k66 {h : Heap} {tb : Nat} {K : OK} {args : List V} {ls : List Nat} (l : List (List UInt8)) (hg : toDs h args = some ([.sl (strs l), .sl (strs l)], ls)) (hl : l.length ≤ LEN)
    (hk : K (.d (.bool true)) []) : callVC Go.Proofs.Try.prog h tb 66 args K :=
  call_free hg (c66 l hl) rfl (.inr ⟨.d (.bool _), flatH_nil⟩) hk

@[go_sem] def hr82 : Hints
  | 0 => [0, 1] | 1 => [1, 2] | 2 => [1] | 3 => [] | 4 => [1] | _ => []
@[go_sem] def hl82 : Hints := fun _ => []
attribute [go_sem] Go.Proofs.Try.results82
set_option maxHeartbeats 1000000 in
theorem c82 (x : GPut) (left : Int) (hx : okGPut x) : CallOK Go.Proofs.Try.prog 82 [.d (.agg x.cells), .d (.int .i64 left)] [] [.dead, .dead] (.d (.int .i64 (szGPut x left))) [] := by
  refine call_of tysZOK mixedZ Go.Proofs.Try.func82 (by kernel_rfl) rfl (np := [false, false]) (by kernel_rfl) hr82 hl82 (by simp [Go.Proofs.Try.ntmps82]) ?_
  have o0 := hx
  simp -implicitDefEqProofs (maxSteps := 3000000) only [go_sem, reduceCtorEq, GPut.cells]
  refine way_dec (fun h0 => ?_) (fun h0 => ?_)
  · simp -implicitDefEqProofs (maxSteps := 3000000) only [go_sem, reduceCtorEq]
    simp [szGPut, chain, szTx, sub64, h0]
  · simp -implicitDefEqProofs (maxSteps := 3000000) only [go_sem, reduceCtorEq]
    simp [szGPut, chain, szTx, sub64, h0]
theorem k82 {h : Heap} {tb : Nat} {K : OK} {args : List V} {ls : List Nat} (x : GPut) (left : Int) (hg : toDs h args = some ([.agg [.int .i64 x.fPage, .str x.fText], .int .i64 left], ls)) (hx : okGPut x)
    (hk : K (.d (.int .i64 (szGPut x left))) []) : callVC Go.Proofs.Try.prog h tb 82 args K :=
  call_free hg (c82 x left hx) rfl (.inr ⟨.d (.int _ _), flatH_nil⟩) hk
@[go_sem] def hr87 : Hints
  | 0 => [0] | 1 => [1, 2] | 2 => [1, 2, 3] | 3 => [1, 2, 3] | 4 => [2, 3] | _ => []
@[go_sem] def hl87 : Hints := fun _ => []
attribute [go_sem] Go.Proofs.Try.results87
set_option maxHeartbeats 2000000 in
theorem c87 (x : GPut) (hx : smallGPut x) : CallOK Go.Proofs.Try.prog 87 [.d (.agg x.cells)] [] [.dead] (.d (.agg x.cells)) [] := by
  refine freeze_agg ?_ rfl
  refine call_of tysZOK mixedZ Go.Proofs.Try.func87 (by kernel_rfl) rfl (np := [false]) (by kernel_rfl) hr87 hl87 (by simp [Go.Proofs.Try.ntmps87]) ?_
  have o0 := hx
  simp -implicitDefEqProofs (maxSteps := 3000000) only [go_sem, reduceCtorEq, GPut.cells]
  repeat ((first | refine req (by first | assumption | omega) ?_); simp -implicitDefEqProofs (maxSteps := 3000000) only [go_sem, reduceCtorEq])
  all_goals rfl
theorem k87 {h : Heap} {tb : Nat} {K : OK} {args : List V} (x : GPut) (hg : toDs h args = some ([.agg [.int .i64 x.fPage, .str x.fText]], [])) (hx : smallGPut x)
    (hk : K (.d (.agg [.int .i64 x.fPage, .str x.fText])) []) : callVC Go.Proofs.Try.prog h tb 87 args K :=
  call_free hg (c87 x hx) rfl (.inl rfl) hk
@[go_sem] def hr91 : Hints
  | 0 => [0, 1] | 1 => [2, 3] | 2 => [] | 3 => [2, 3] | 4 => [] | 5 => [] | _ => []
@[go_sem] def hl91 : Hints := fun _ => []
attribute [go_sem] Go.Proofs.Try.results91
set_option maxHeartbeats 2000000 in
theorem c91 (x : GPut) (hx : okGPut x) : CallOK Go.Proofs.Try.prog 91 [.d (.agg x.cells), .d (.agg x.cells)] [] [.dead, .dead] (.d (.bool true)) [] := by
  refine call_of tysZOK mixedZ Go.Proofs.Try.func91 (by kernel_rfl) rfl (np := [false, false]) (by kernel_rfl) hr91 hl91 (by simp [Go.Proofs.Try.ntmps91]) ?_
  have o0 := hx
  simp -implicitDefEqProofs (maxSteps := 3000000) only [go_sem, reduceCtorEq, GPut.cells, decide_true]
  repeat ((first | refine req (by first | assumption | omega) ?_); simp -implicitDefEqProofs (maxSteps := 3000000) only [go_sem, reduceCtorEq, decide_true, beq_self_eq_true])
theorem k91 {h : Heap} {tb : Nat} {K : OK} {args : List V} {ls : List Nat} (x : GPut) (hg : toDs h args = some ([.agg [.int .i64 x.fPage, .str x.fText], .agg [.int .i64 x.fPage, .str x.fText]], ls)) (hx : okGPut x)
    (hk : K (.d (.bool true)) []) : callVC Go.Proofs.Try.prog h tb 91 args K :=
  call_free hg (c91 x hx) rfl (.inr ⟨.d (.bool _), flatH_nil⟩) hk

@[go_sem] def hr57 : Hints
  | 0 => [0, 1] | 1 => [0, 1] | 2 => [0, 1] | 3 => [] | 4 => [0, 1] | 5 => [0, 1, 5] | 6 => [0, 1, 5] | 7 => [0, 1, 5] | 8 => [0, 1, 5] | 9 => [] | 10 => [1] | _ => []
@[go_sem] def hl57 : Hints
  | 5 => [0, 1, 5] | _ => []
attribute [go_sem] Go.Proofs.Try.results57
theorem c57 (l : List GPut) (left : Int) (hl : okSl okGPut l) : CallOK Go.Proofs.Try.prog 57 [.d (.sl (GPutS l)), .d (.int .i64 left)] [] [.dead, .dead] (.d (.int .i64 (szSl szGPut l left))) [] := by
  refine call_of tysZOK mixedZ Go.Proofs.Try.func57 (by kernel_rfl) rfl (np := [false, false]) (by kernel_rfl) hr57 hl57 (by simp [Go.Proofs.Try.ntmps57]) ?_
  simp -implicitDefEqProofs (maxSteps := 3000000) only [go_sem, reduceCtorEq, GPutS_length]
  refine way_dec (fun h1 => ?_) (fun h1 => ?_)
  · simp -implicitDefEqProofs (maxSteps := 3000000) only [go_sem, reduceCtorEq]
    simp [szSl, sub64, h1]
  · simp -implicitDefEqProofs (maxSteps := 3000000) only [go_sem, reduceCtorEq]
    refine loop_data (α := Nat × Int) (fun x => ⟨[(0, .d (.sl (GPutS l))), (1, .d (.int .i64 x.2)), (5, .d (.int .i64 x.1))], []⟩)
      (fun x => x.1 ≤ l.length ∧ chainL szGPut (l.drop x.1) x.2 = szSl szGPut l left) (fun x => l.length - x.1) (0, IntKind.i64.wrap (left - l.length)) rfl ⟨Nat.zero_le _, by simp [szSl, sub64, h1]⟩ ?_
    rintro ⟨i, lf⟩ ⟨h2, h3⟩
    simp -implicitDefEqProofs (maxSteps := 3000000) only [go_sem, reduceCtorEq, GPutS_length]
    refine way_dec (fun h4 => ?_) (fun h4 => ?_)
    · obtain ⟨p, hp⟩ := some_at h4
      rw [drop_cons hp] at h3
      simp -implicitDefEqProofs (maxSteps := 3000000) only [go_sem, reduceCtorEq, GPutS_length, lget_GPutS hp]
      repeat ((first | refine req (by first | assumption | omega) ?_ | refine k82 p _ rfl (hl.2 p (List.mem_of_getElem? hp)) ?_); simp -implicitDefEqProofs (maxSteps := 3000000) only [go_sem, reduceCtorEq, GPutS_length, lget_GPutS hp])
      refine way_dec (fun h5 => ?_) (fun h5 => ?_)
      · simp -implicitDefEqProofs (maxSteps := 3000000) only [go_sem, reduceCtorEq]
        rw [← h3, chainL_neg (f := szGPut) (a := p) (l := lf) h5]
      · simp -implicitDefEqProofs (maxSteps := 3000000) only [go_sem, reduceCtorEq]
        refine next_data (i + 1, szGPut p lf) ?_ ⟨?_, ?_⟩ ?_
        · first | (simp only [wrap_succ (show i < LEN by have := hl.1; omega)]; done) | (simp only [wrap_succ (show i < LEN by have := hl.1; omega)]; rfl)
        · simp only; omega
        · rw [← h3]; exact (chainL_pos (f := szGPut) (a := p) (l := lf) h5).symm
        · simp only; omega
    · simp -implicitDefEqProofs (maxSteps := 3000000) only [go_sem, reduceCtorEq, GPutS_length]
      rw [List.drop_eq_nil_of_le (by omega)] at h3
      rw [← h3]; rfl
theorem k57 {h : Heap} {tb : Nat} {K : OK} {args : List V} {ls : List Nat} (l : List GPut) (left : Int) (hg : toDs h args = some ([.sl (GPutS l), .int .i64 left], ls)) (hl : okSl okGPut l)
    (hk : K (.d (.int .i64 (szSl szGPut l left))) []) : callVC Go.Proofs.Try.prog h tb 57 args K :=
  call_free hg (c57 l left hl) rfl (.inr ⟨.d (.int _ _), flatH_nil⟩) hk
@[go_sem] def hr62 : Hints
  | 0 => [0] | 1 => [0] | 2 => [0, 3] | 3 => [0, 3, 4] | 4 => [0, 3, 4] | 5 => [0, 3, 4] | 6 => [3] | _ => []
@[go_sem] def hl62 : Hints
  | 3 => [0, 3, 4] | _ => []
attribute [go_sem] Go.Proofs.Try.results62
theorem c62 (l : List GPut) (hl : smallSl smallGPut l) : CallOK Go.Proofs.Try.prog 62 [.d (.sl (GPutS l))] [] [.dead] (.d (.sl (GPutS l))) [] := by
  have hl1 := hl.1
  refine freeze_own (m := 2) (n := l.length) ?_ GPutS_length.symm rfl
  refine call_of tysZOK mixedZ Go.Proofs.Try.func62 (by kernel_rfl) rfl (np := [false]) (by kernel_rfl) hr62 hl62 (by simp [Go.Proofs.Try.ntmps62]) ?_
  simp -implicitDefEqProofs (maxSteps := 3000000) only [go_sem, reduceCtorEq, GPutS_length]
  repeat ((first | refine req (by first | assumption | omega) ?_); simp -implicitDefEqProofs (maxSteps := 3000000) only [go_sem, reduceCtorEq, GPutS_length])
  rw [GPutS_zero]
  refine loop_data (α := Nat × List (GPut)) (fun x => ⟨[(0, .d (.sl (GPutS l))), (3, .own 0 0 l.length), (4, .d (.int .i64 x.1))], [(0, some (.arr 2 (GPutS x.2)))]⟩)
    (fun x => x.1 ≤ l.length ∧ x.2.length = l.length ∧ x.2.take x.1 = l.take x.1) (fun x => l.length - x.1) (0, _) rfl ⟨Nat.zero_le _, by simp, by simp⟩ ?_
  rintro ⟨i, m⟩ ⟨h2, h3, h4⟩
  simp only at h2 h3 h4
  simp -implicitDefEqProofs (maxSteps := 3000000) only [go_sem, reduceCtorEq, GPutS_length]
  refine way_dec (fun h5 => ?_) (fun h5 => ?_)
  · obtain ⟨p, hp⟩ := some_at h5
    obtain ⟨q, hq⟩ := some_at (l := m) (h3 ▸ h5)
    simp -implicitDefEqProofs (maxSteps := 3000000) only [go_sem, reduceCtorEq, GPutS_length, lget_GPutS hp]
    repeat ((first | refine req (by first | assumption | omega) ?_ | refine k87 p rfl (hl.2 p (List.mem_of_getElem? hp)) ?_); simp -implicitDefEqProofs (maxSteps := 3000000) only [go_sem, reduceCtorEq, GPutS_length, lget_GPutS hp, lget_GPutS hq])
    rw [wrap_succ (by simp only [LEN]; omega)]
    try rw [GPutS_set (p := p)]
    refine next_data (i + 1, m.set i p) rfl ⟨?_, by simpa using h3, take_set hp h3 h4⟩ ?_
    · simp only; omega
    · simp only; omega
  · simp -implicitDefEqProofs (maxSteps := 3000000) only [go_sem, reduceCtorEq, GPutS_length]
    rw [List.take_of_length_le (by omega), List.take_of_length_le (by omega)] at h4
    rw [h4]
theorem k62 {h : Heap} {tb : Nat} {K : OK} {args : List V} (l : List GPut) (hg : toDs h args = some ([.sl (GPutS l)], [])) (hl : smallSl smallGPut l)
    (hk : K (.d (.sl (GPutS l))) []) : callVC Go.Proofs.Try.prog h tb 62 args K :=
  call_free hg (c62 l hl) rfl (.inl rfl) hk
@[go_sem] def hr67 : Hints
  | 0 => [0, 1] | 1 => [0, 1] | 2 => [] | 3 => [0, 1] | 4 => [0, 1, 5] | 5 => [0, 1, 5] | 6 => [0, 1, 5] | 7 => [] | 8 => [] | _ => []
@[go_sem] def hl67 : Hints
  | 4 => [0, 1, 5] | _ => []
attribute [go_sem] Go.Proofs.Try.results67
theorem c67 (l : List GPut) (hl : okSl okGPut l) : CallOK Go.Proofs.Try.prog 67 [.d (.sl (GPutS l)), .d (.sl (GPutS l))] [] [.dead, .dead] (.d (.bool true)) [] := by
  have hl1 := hl.1
  refine call_of tysZOK mixedZ Go.Proofs.Try.func67 (by kernel_rfl) rfl (np := [false, false]) (by kernel_rfl) hr67 hl67 (by simp [Go.Proofs.Try.ntmps67]) ?_
  simp -implicitDefEqProofs (maxSteps := 3000000) only [go_sem, reduceCtorEq, GPutS_length]
  refine loop_data (α := Nat) (fun i => ⟨[(0, .d (.sl (GPutS l))), (1, .d (.sl (GPutS l))), (5, .d (.int .i64 i))], []⟩)
    (fun i => i ≤ l.length) (fun i => l.length - i) 0 rfl (Nat.zero_le _) ?_
  rintro i h2
  simp -implicitDefEqProofs (maxSteps := 3000000) only [go_sem, reduceCtorEq, GPutS_length]
  refine way_dec (fun h5 => ?_) (fun h5 => ?_)
  · obtain ⟨p, hp⟩ := some_at h5
    simp -implicitDefEqProofs (maxSteps := 3000000) only [go_sem, reduceCtorEq, GPutS_length, lget_GPutS hp]
    repeat ((first | refine req (by first | assumption | omega | exact commP_of (by kernel_rfl)) ?_ | refine k91 p rfl (hl.2 p (List.mem_of_getElem? hp)) ?_); simp -implicitDefEqProofs (maxSteps := 3000000) only [go_sem, reduceCtorEq, GPutS_length, lget_GPutS hp, decide_true])
    rw [wrap_succ (by omega)]
    exact next_data (i + 1) rfl (by omega) (by omega)
  · simp -implicitDefEqProofs (maxSteps := 3000000) only [go_sem, reduceCtorEq, GPutS_length]
theorem k67 {h : Heap} {tb : Nat} {K : OK} {args : List V} {ls : List Nat} (l : List GPut) (hg : toDs h args = some ([.sl (GPutS l), .sl (GPutS l)], ls)) (hl : okSl okGPut l)
    (hk : K (.d (.bool true)) []) : callVC Go.Proofs.Try.prog h tb 67 args K :=
  call_free hg (c67 l hl) rfl (.inr ⟨.d (.bool _), flatH_nil⟩) hk

@[go_sem] def hr25 : Hints
  | 0 => [0, 1] | 1 => [1, 2] | 2 => [1, 2] | 3 => [] | 4 => [1, 2] | 5 => [1] | 6 => [] | 7 => [1] | _ => []
@[go_sem] def hl25 : Hints := fun _ => []
attribute [go_sem] Go.Proofs.Try.results25
set_option maxHeartbeats 1000000 in
theorem c25 (x : GDisk) (left : Int) (hx : okGDisk x) : CallOK Go.Proofs.Try.prog 25 [.d (.agg x.cells), .d (.int .i64 left)] [] [.dead, .dead] (.d (.int .i64 (szGDisk x left))) [] := by
  refine call_of tysZOK mixedZ Go.Proofs.Try.func25 (by kernel_rfl) rfl (np := [false, false]) (by kernel_rfl) hr25 hl25 (by simp [Go.Proofs.Try.ntmps25]) ?_
  obtain ⟨o0, o1⟩ := hx
  simp -implicitDefEqProofs (maxSteps := 3000000) only [go_sem, reduceCtorEq, GDisk.cells]
  refine k56 x.fPages _ rfl o0 ?_
  simp -implicitDefEqProofs (maxSteps := 3000000) only [go_sem, reduceCtorEq]
  refine way_dec (fun h0 => ?_) (fun h0 => ?_)
  · simp -implicitDefEqProofs (maxSteps := 3000000) only [go_sem, reduceCtorEq]
    simp [szGDisk, chain, szTx, sub64, h0]
  · simp -implicitDefEqProofs (maxSteps := 3000000) only [go_sem, reduceCtorEq]
    refine k57 x.fLate _ rfl o1 ?_
    simp -implicitDefEqProofs (maxSteps := 3000000) only [go_sem, reduceCtorEq]
    refine way_dec (fun h1 => ?_) (fun h1 => ?_)
    · simp -implicitDefEqProofs (maxSteps := 3000000) only [go_sem, reduceCtorEq]
      simp [szGDisk, chain, szTx, sub64, h0, h1]
    · simp -implicitDefEqProofs (maxSteps := 3000000) only [go_sem, reduceCtorEq]
      simp [szGDisk, chain, szTx, sub64, h0, h1]
theorem k25 {h : Heap} {tb : Nat} {K : OK} {args : List V} {ls : List Nat} (x : GDisk) (left : Int) (hg : toDs h args = some ([.agg [.sl (strs x.fPages), .sl (GPutS x.fLate)], .int .i64 left], ls)) (hx : okGDisk x)
    (hk : K (.d (.int .i64 (szGDisk x left))) []) : callVC Go.Proofs.Try.prog h tb 25 args K :=
  call_free hg (c25 x left hx) rfl (.inr ⟨.d (.int _ _), flatH_nil⟩) hk
@[go_sem] def hr30 : Hints
  | 0 => [0] | 1 => [1, 2] | 2 => [1, 2, 3] | 3 => [1, 2, 3] | 4 => [2, 3] | _ => []
@[go_sem] def hl30 : Hints := fun _ => []
attribute [go_sem] Go.Proofs.Try.results30
set_option maxHeartbeats 2000000 in
theorem c30 (x : GDisk) (hx : smallGDisk x) : CallOK Go.Proofs.Try.prog 30 [.d (.agg x.cells)] [] [.dead] (.d (.agg x.cells)) [] := by
  refine freeze_agg ?_ rfl
  refine call_of tysZOK mixedZ Go.Proofs.Try.func30 (by kernel_rfl) rfl (np := [false]) (by kernel_rfl) hr30 hl30 (by simp [Go.Proofs.Try.ntmps30]) ?_
  obtain ⟨o0, o1⟩ := hx
  simp -implicitDefEqProofs (maxSteps := 3000000) only [go_sem, reduceCtorEq, GDisk.cells]
  repeat ((first | refine req (by first | assumption | omega) ?_ | refine k61 x.fPages rfl o0.1 ?_ | refine k62 x.fLate rfl o1 ?_); simp -implicitDefEqProofs (maxSteps := 3000000) only [go_sem, reduceCtorEq])
  all_goals rfl
theorem k30 {h : Heap} {tb : Nat} {K : OK} {args : List V} (x : GDisk) (hg : toDs h args = some ([.agg [.sl (strs x.fPages), .sl (GPutS x.fLate)]], [])) (hx : smallGDisk x)
    (hk : K (.d (.agg [.sl (strs x.fPages), .sl (GPutS x.fLate)])) []) : callVC Go.Proofs.Try.prog h tb 30 args K :=
  call_free hg (c30 x hx) rfl (.inl rfl) hk
@[go_sem] def hr37 : Hints
  | 0 => [0, 1] | 1 => [2, 3] | 2 => [] | 3 => [2, 3] | 4 => [] | 5 => [] | _ => []
@[go_sem] def hl37 : Hints := fun _ => []
attribute [go_sem] Go.Proofs.Try.results37
set_option maxHeartbeats 2000000 in
theorem c37 (x : GDisk) (hx : okGDisk x) : CallOK Go.Proofs.Try.prog 37 [.d (.agg x.cells), .d (.agg x.cells)] [] [.dead, .dead] (.d (.bool true)) [] := by
  refine call_of tysZOK mixedZ Go.Proofs.Try.func37 (by kernel_rfl) rfl (np := [false, false]) (by kernel_rfl) hr37 hl37 (by simp [Go.Proofs.Try.ntmps37]) ?_
  obtain ⟨o0, o1⟩ := hx
  simp -implicitDefEqProofs (maxSteps := 3000000) only [go_sem, reduceCtorEq, GDisk.cells, decide_true]
  repeat ((first | refine req (by first | assumption | omega) ?_ | refine k66 x.fPages rfl o0.1 ?_ | refine k67 x.fLate rfl o1 ?_); simp -implicitDefEqProofs (maxSteps := 3000000) only [go_sem, reduceCtorEq, decide_true, beq_self_eq_true])
theorem k37 {h : Heap} {tb : Nat} {K : OK} {args : List V} {ls : List Nat} (x : GDisk) (hg : toDs h args = some ([.agg [.sl (strs x.fPages), .sl (GPutS x.fLate)], .agg [.sl (strs x.fPages), .sl (GPutS x.fLate)]], ls)) (hx : okGDisk x)
    (hk : K (.d (.bool true)) []) : callVC Go.Proofs.Try.prog h tb 37 args K :=
  call_free hg (c37 x hx) rfl (.inr ⟨.d (.bool _), flatH_nil⟩) hk

end Go.Rx

namespace Go.Rx
open Go
attribute [local irreducible] Req Way WayG Sel callVC CallOK
set_option linter.unusedSimpArgs false
set_option linter.unusedVariables false
@[go_sem] def hr5 : Hints
  | 0 => [0, 1] | 1 => [1, 2] | 2 => [1, 2] | 3 => [] | 4 => [1, 2] | 5 => [1, 2] | 6 => [] | 7 => [1, 2] | 8 => [1, 2] | 9 => [] | 10 => [1, 2] | 11 => [1] | 12 => [] | 13 => [1] | _ => []
@[go_sem] def hl5 : Hints := fun _ => []
attribute [go_sem] Go.Proofs.Try.results5
set_option maxHeartbeats 1000000 in
theorem c5 (x : GWork) (left : Int) (hx : okGWork x) : CallOK Go.Proofs.Try.prog 5 [.d (.agg x.cells), .d (.int .i64 left)] [] [.dead, .dead] (.d (.int .i64 (szGWork x left))) [] := by
  refine call_of tysZOK mixedZ Go.Proofs.Try.func5 (by kernel_rfl) rfl (np := [false, false]) (by kernel_rfl) hr5 hl5 (by simp [Go.Proofs.Try.ntmps5]) ?_
  obtain ⟨o0, o1, o2, o3⟩ := hx
  simp -implicitDefEqProofs (maxSteps := 3000000) only [go_sem, reduceCtorEq, GWork.cells]
  refine k25 x.fDisk _ rfl o0 ?_
  simp -implicitDefEqProofs (maxSteps := 3000000) only [go_sem, reduceCtorEq]
  refine way_dec (fun h0 => ?_) (fun h0 => ?_)
  · simp -implicitDefEqProofs (maxSteps := 3000000) only [go_sem, reduceCtorEq]
    simp [szGWork, chain, szTx, sub64, h0]
  · simp -implicitDefEqProofs (maxSteps := 3000000) only [go_sem, reduceCtorEq]
    refine k26 x.fUsable _ rfl ?_
    simp -implicitDefEqProofs (maxSteps := 3000000) only [go_sem, reduceCtorEq]
    refine way_dec (fun h1 => ?_) (fun h1 => ?_)
    · simp -implicitDefEqProofs (maxSteps := 3000000) only [go_sem, reduceCtorEq]
      simp [szGWork, chain, szTx, sub64, h0, h1]
    · simp -implicitDefEqProofs (maxSteps := 3000000) only [go_sem, reduceCtorEq]
      refine k26 x.fGone _ rfl ?_
      simp -implicitDefEqProofs (maxSteps := 3000000) only [go_sem, reduceCtorEq]
      refine way_dec (fun h2 => ?_) (fun h2 => ?_)
      · simp -implicitDefEqProofs (maxSteps := 3000000) only [go_sem, reduceCtorEq]
        simp [szGWork, chain, szTx, sub64, h0, h1, h2]
      · simp -implicitDefEqProofs (maxSteps := 3000000) only [go_sem, reduceCtorEq]
        refine k26 x.fFresh _ rfl ?_
        simp -implicitDefEqProofs (maxSteps := 3000000) only [go_sem, reduceCtorEq]
        refine way_dec (fun h3 => ?_) (fun h3 => ?_)
        · simp -implicitDefEqProofs (maxSteps := 3000000) only [go_sem, reduceCtorEq]
          simp [szGWork, chain, szTx, sub64, h0, h1, h2, h3]
        · simp -implicitDefEqProofs (maxSteps := 3000000) only [go_sem, reduceCtorEq]
          simp [szGWork, chain, szTx, sub64, h0, h1, h2, h3]
theorem k5 {h : Heap} {tb : Nat} {K : OK} {args : List V} {ls : List Nat} (x : GWork) (left : Int) (hg : toDs h args = some ([.agg [.sl (strs x.fDisk.fPages), .sl (GPutS x.fDisk.fLate), .int .i64 x.fNext, .sl (ints x.fUsable), .sl (ints x.fGone), .sl (ints x.fFresh)], .int .i64 left], ls)) (hx : okGWork x)
    (hk : K (.d (.int .i64 (szGWork x left))) []) : callVC Go.Proofs.Try.prog h tb 5 args K :=
  call_free hg (c5 x left hx) rfl (.inr ⟨.d (.int _ _), flatH_nil⟩) hk
@[go_sem] def hr8 : Hints
  | 0 => [0] | 1 => [1, 2] | 2 => [1, 2, 3] | 3 => [1, 2, 3] | 4 => [1, 2, 3] | 5 => [1, 2, 3] | 6 => [1, 2, 3] | 7 => [2, 3] | _ => []
@[go_sem] def hl8 : Hints := fun _ => []
attribute [go_sem] Go.Proofs.Try.results8
set_option maxHeartbeats 2000000 in
theorem c8 (x : GWork) (hx : smallGWork x) : CallOK Go.Proofs.Try.prog 8 [.d (.agg x.cells)] [] [.dead] (.d (.agg x.cells)) [] := by
  refine freeze_agg ?_ rfl
  refine call_of tysZOK mixedZ Go.Proofs.Try.func8 (by kernel_rfl) rfl (np := [false]) (by kernel_rfl) hr8 hl8 (by simp [Go.Proofs.Try.ntmps8]) ?_
  obtain ⟨o0, o1, o2, o3⟩ := hx
  simp -implicitDefEqProofs (maxSteps := 3000000) only [go_sem, reduceCtorEq, GWork.cells]
  repeat ((first | refine req (by first | assumption | omega) ?_ | refine k30 x.fDisk rfl o0 ?_ | refine k31 x.fUsable rfl o1 ?_ | refine k31 x.fGone rfl o2 ?_ | refine k31 x.fFresh rfl o3 ?_); simp -implicitDefEqProofs (maxSteps := 3000000) only [go_sem, reduceCtorEq])
  all_goals rfl
theorem k8 {h : Heap} {tb : Nat} {K : OK} {args : List V} (x : GWork) (hg : toDs h args = some ([.agg [.sl (strs x.fDisk.fPages), .sl (GPutS x.fDisk.fLate), .int .i64 x.fNext, .sl (ints x.fUsable), .sl (ints x.fGone), .sl (ints x.fFresh)]], [])) (hx : smallGWork x)
    (hk : K (.d (.agg [.sl (strs x.fDisk.fPages), .sl (GPutS x.fDisk.fLate), .int .i64 x.fNext, .sl (ints x.fUsable), .sl (ints x.fGone), .sl (ints x.fFresh)])) []) : callVC Go.Proofs.Try.prog h tb 8 args K :=
  call_free hg (c8 x hx) rfl (.inl rfl) hk
@[go_sem] def hr11 : Hints
  | 0 => [0, 1] | 1 => [2, 3] | 2 => [] | 3 => [2, 3] | 4 => [] | 5 => [2, 3] | 6 => [] | 7 => [2, 3] | 8 => [] | 9 => [2, 3] | 10 => [] | 11 => [] | _ => []
@[go_sem] def hl11 : Hints := fun _ => []
attribute [go_sem] Go.Proofs.Try.results11
set_option maxHeartbeats 2000000 in
theorem c11 (x : GWork) (hx : okGWork x) : CallOK Go.Proofs.Try.prog 11 [.d (.agg x.cells), .d (.agg x.cells)] [] [.dead, .dead] (.d (.bool true)) [] := by
  refine call_of tysZOK mixedZ Go.Proofs.Try.func11 (by kernel_rfl) rfl (np := [false, false]) (by kernel_rfl) hr11 hl11 (by simp [Go.Proofs.Try.ntmps11]) ?_
  obtain ⟨o0, o1, o2, o3⟩ := hx
  simp -implicitDefEqProofs (maxSteps := 3000000) only [go_sem, reduceCtorEq, GWork.cells, decide_true]
  repeat ((first | refine req (by first | assumption | omega) ?_ | refine k37 x.fDisk rfl o0 ?_ | refine k38 x.fUsable rfl o1 ?_ | refine k38 x.fGone rfl o2 ?_ | refine k38 x.fFresh rfl o3 ?_); simp -implicitDefEqProofs (maxSteps := 3000000) only [go_sem, reduceCtorEq, decide_true, beq_self_eq_true])
theorem k11 {h : Heap} {tb : Nat} {K : OK} {args : List V} {ls : List Nat} (x : GWork) (hg : toDs h args = some ([.agg [.sl (strs x.fDisk.fPages), .sl (GPutS x.fDisk.fLate), .int .i64 x.fNext, .sl (ints x.fUsable), .sl (ints x.fGone), .sl (ints x.fFresh)], .agg [.sl (strs x.fDisk.fPages), .sl (GPutS x.fDisk.fLate), .int .i64 x.fNext, .sl (ints x.fUsable), .sl (ints x.fGone), .sl (ints x.fFresh)]], ls)) (hx : okGWork x)
    (hk : K (.d (.bool true)) []) : callVC Go.Proofs.Try.prog h tb 11 args K :=
  call_free hg (c11 x hx) rfl (.inr ⟨.d (.bool _), flatH_nil⟩) hk

end Go.Rx

namespace Go.Rx
open Go
attribute [local irreducible] Req Way WayG Sel callVC CallOK
set_option linter.unusedSimpArgs false
set_option linter.unusedVariables false
@[go_sem] def hr27 : Hints
  | 0 => [0, 1] | 1 => [1, 2] | 2 => [1, 2] | 3 => [] | 4 => [1, 2] | 5 => [1] | 6 => [] | 7 => [1] | _ => []
@[go_sem] def hl27 : Hints := fun _ => []
attribute [go_sem] Go.Proofs.Try.results27
set_option maxHeartbeats 1000000 in
theorem c27 (x : GPair) (left : Int) (hx : okGPair x) : CallOK Go.Proofs.Try.prog 27 [.d (.agg x.cells), .d (.int .i64 left)] [] [.dead, .dead] (.d (.int .i64 (szGPair x left))) [] := by
  refine call_of tysZOK mixedZ Go.Proofs.Try.func27 (by kernel_rfl) rfl (np := [false, false]) (by kernel_rfl) hr27 hl27 (by simp [Go.Proofs.Try.ntmps27]) ?_
  obtain ⟨o0, o1⟩ := hx
  simp -implicitDefEqProofs (maxSteps := 3000000) only [go_sem, reduceCtorEq, GPair.cells]
  refine way_dec (fun h0 => ?_) (fun h0 => ?_)
  · simp -implicitDefEqProofs (maxSteps := 3000000) only [go_sem, reduceCtorEq]
    simp [szGPair, chain, szTx, sub64, h0]
  · simp -implicitDefEqProofs (maxSteps := 3000000) only [go_sem, reduceCtorEq]
    refine way_dec (fun h1 => ?_) (fun h1 => ?_)
    · simp -implicitDefEqProofs (maxSteps := 3000000) only [go_sem, reduceCtorEq]
      simp [szGPair, chain, szTx, sub64, h0, h1]
    · simp -implicitDefEqProofs (maxSteps := 3000000) only [go_sem, reduceCtorEq]
      simp [szGPair, chain, szTx, sub64, h0, h1]
theorem k27 {h : Heap} {tb : Nat} {K : OK} {args : List V} {ls : List Nat} (x : GPair) (left : Int) (hg : toDs h args = some ([.agg [.str x.fKey, .str x.fVal], .int .i64 left], ls)) (hx : okGPair x)
    (hk : K (.d (.int .i64 (szGPair x left))) []) : callVC Go.Proofs.Try.prog h tb 27 args K :=
  call_free hg (c27 x left hx) rfl (.inr ⟨.d (.int _ _), flatH_nil⟩) hk
@[go_sem] def hr32 : Hints
  | 0 => [0] | 1 => [1, 2] | 2 => [1, 2, 3] | 3 => [1, 2, 3] | 4 => [2, 3] | _ => []
@[go_sem] def hl32 : Hints := fun _ => []
attribute [go_sem] Go.Proofs.Try.results32
set_option maxHeartbeats 2000000 in
theorem c32 (x : GPair) (hx : smallGPair x) : CallOK Go.Proofs.Try.prog 32 [.d (.agg x.cells)] [] [.dead] (.d (.agg x.cells)) [] := by
  refine freeze_agg ?_ rfl
  refine call_of tysZOK mixedZ Go.Proofs.Try.func32 (by kernel_rfl) rfl (np := [false]) (by kernel_rfl) hr32 hl32 (by simp [Go.Proofs.Try.ntmps32]) ?_
  obtain ⟨o0, o1⟩ := hx
  simp -implicitDefEqProofs (maxSteps := 3000000) only [go_sem, reduceCtorEq, GPair.cells]
  repeat ((first | refine req (by first | assumption | omega) ?_); simp -implicitDefEqProofs (maxSteps := 3000000) only [go_sem, reduceCtorEq])
  all_goals rfl
theorem k32 {h : Heap} {tb : Nat} {K : OK} {args : List V} (x : GPair) (hg : toDs h args = some ([.agg [.str x.fKey, .str x.fVal]], [])) (hx : smallGPair x)
    (hk : K (.d (.agg [.str x.fKey, .str x.fVal])) []) : callVC Go.Proofs.Try.prog h tb 32 args K :=
  call_free hg (c32 x hx) rfl (.inl rfl) hk
@[go_sem] def hr39 : Hints
  | 0 => [0, 1] | 1 => [2, 3] | 2 => [] | 3 => [2, 3] | 4 => [] | 5 => [] | _ => []
@[go_sem] def hl39 : Hints := fun _ => []
attribute [go_sem] Go.Proofs.Try.results39
set_option maxHeartbeats 2000000 in
theorem c39 (x : GPair) (hx : okGPair x) : CallOK Go.Proofs.Try.prog 39 [.d (.agg x.cells), .d (.agg x.cells)] [] [.dead, .dead] (.d (.bool true)) [] := by
  refine call_of tysZOK mixedZ Go.Proofs.Try.func39 (by kernel_rfl) rfl (np := [false, false]) (by kernel_rfl) hr39 hl39 (by simp [Go.Proofs.Try.ntmps39]) ?_
  obtain ⟨o0, o1⟩ := hx
  simp -implicitDefEqProofs (maxSteps := 3000000) only [go_sem, reduceCtorEq, GPair.cells, decide_true]
  repeat ((first | refine req (by first | assumption | omega) ?_); simp -implicitDefEqProofs (maxSteps := 3000000) only [go_sem, reduceCtorEq, decide_true, beq_self_eq_true])
theorem k39 {h : Heap} {tb : Nat} {K : OK} {args : List V} {ls : List Nat} (x : GPair) (hg : toDs h args = some ([.agg [.str x.fKey, .str x.fVal], .agg [.str x.fKey, .str x.fVal]], ls)) (hx : okGPair x)
    (hk : K (.d (.bool true)) []) : callVC Go.Proofs.Try.prog h tb 39 args K :=
  call_free hg (c39 x hx) rfl (.inr ⟨.d (.bool _), flatH_nil⟩) hk

@[go_sem] def hr6 : Hints
  | 0 => [0, 1] | 1 => [0, 1] | 2 => [0, 1] | 3 => [] | 4 => [0, 1] | 5 => [0, 1, 5] | 6 => [0, 1, 5] | 7 => [0, 1, 5] | 8 => [0, 1, 5] | 9 => [] | 10 => [1] | _ => []
@[go_sem] def hl6 : Hints
  | 5 => [0, 1, 5] | _ => []
attribute [go_sem] Go.Proofs.Try.results6
theorem c6 (l : List GPair) (left : Int) (hl : okSl okGPair l) : CallOK Go.Proofs.Try.prog 6 [.d (.sl (GPairS l)), .d (.int .i64 left)] [] [.dead, .dead] (.d (.int .i64 (szSl szGPair l left))) [] := by
  refine call_of tysZOK mixedZ Go.Proofs.Try.func6 (by kernel_rfl) rfl (np := [false, false]) (by kernel_rfl) hr6 hl6 (by simp [Go.Proofs.Try.ntmps6]) ?_
  simp -implicitDefEqProofs (maxSteps := 3000000) only [go_sem, reduceCtorEq, GPairS_length]
  refine way_dec (fun h1 => ?_) (fun h1 => ?_)
  · simp -implicitDefEqProofs (maxSteps := 3000000) only [go_sem, reduceCtorEq]
    simp [szSl, sub64, h1]
  · simp -implicitDefEqProofs (maxSteps := 3000000) only [go_sem, reduceCtorEq]
    refine loop_data (α := Nat × Int) (fun x => ⟨[(0, .d (.sl (GPairS l))), (1, .d (.int .i64 x.2)), (5, .d (.int .i64 x.1))], []⟩)
      (fun x => x.1 ≤ l.length ∧ chainL szGPair (l.drop x.1) x.2 = szSl szGPair l left) (fun x => l.length - x.1) (0, IntKind.i64.wrap (left - l.length)) rfl ⟨Nat.zero_le _, by simp [szSl, sub64, h1]⟩ ?_
    rintro ⟨i, lf⟩ ⟨h2, h3⟩
    simp -implicitDefEqProofs (maxSteps := 3000000) only [go_sem, reduceCtorEq, GPairS_length]
    refine way_dec (fun h4 => ?_) (fun h4 => ?_)
    · obtain ⟨p, hp⟩ := some_at h4
      rw [drop_cons hp] at h3
      simp -implicitDefEqProofs (maxSteps := 3000000) only [go_sem, reduceCtorEq, GPairS_length, lget_GPairS hp]
      repeat ((first | refine req (by first | assumption | omega) ?_ | refine k27 p _ rfl (hl.2 p (List.mem_of_getElem? hp)) ?_); simp -implicitDefEqProofs (maxSteps := 3000000) only [go_sem, reduceCtorEq, GPairS_length, lget_GPairS hp])
      refine way_dec (fun h5 => ?_) (fun h5 => ?_)
      · simp -implicitDefEqProofs (maxSteps := 3000000) only [go_sem, reduceCtorEq]
        rw [← h3, chainL_neg (f := szGPair) (a := p) (l := lf) h5]
      · simp -implicitDefEqProofs (maxSteps := 3000000) only [go_sem, reduceCtorEq]
        refine next_data (i + 1, szGPair p lf) ?_ ⟨?_, ?_⟩ ?_
        · first | (simp only [wrap_succ (show i < LEN by have := hl.1; omega)]; done) | (simp only [wrap_succ (show i < LEN by have := hl.1; omega)]; rfl)
        · simp only; omega
        · rw [← h3]; exact (chainL_pos (f := szGPair) (a := p) (l := lf) h5).symm
        · simp only; omega
    · simp -implicitDefEqProofs (maxSteps := 3000000) only [go_sem, reduceCtorEq, GPairS_length]
      rw [List.drop_eq_nil_of_le (by omega)] at h3
      rw [← h3]; rfl
theorem k6 {h : Heap} {tb : Nat} {K : OK} {args : List V} {ls : List Nat} (l : List GPair) (left : Int) (hg : toDs h args = some ([.sl (GPairS l), .int .i64 left], ls)) (hl : okSl okGPair l)
    (hk : K (.d (.int .i64 (szSl szGPair l left))) []) : callVC Go.Proofs.Try.prog h tb 6 args K :=
  call_free hg (c6 l left hl) rfl (.inr ⟨.d (.int _ _), flatH_nil⟩) hk
@[go_sem] def hr9 : Hints
  | 0 => [0] | 1 => [0] | 2 => [0, 3] | 3 => [0, 3, 4] | 4 => [0, 3, 4] | 5 => [0, 3, 4] | 6 => [3] | _ => []
@[go_sem] def hl9 : Hints
  | 3 => [0, 3, 4] | _ => []
attribute [go_sem] Go.Proofs.Try.results9
theorem c9 (l : List GPair) (hl : smallSl smallGPair l) : CallOK Go.Proofs.Try.prog 9 [.d (.sl (GPairS l))] [] [.dead] (.d (.sl (GPairS l))) [] := by
  have hl1 := hl.1
  refine freeze_own (m := 2) (n := l.length) ?_ GPairS_length.symm rfl
  refine call_of tysZOK mixedZ Go.Proofs.Try.func9 (by kernel_rfl) rfl (np := [false]) (by kernel_rfl) hr9 hl9 (by simp [Go.Proofs.Try.ntmps9]) ?_
  simp -implicitDefEqProofs (maxSteps := 3000000) only [go_sem, reduceCtorEq, GPairS_length]
  repeat ((first | refine req (by first | assumption | omega) ?_); simp -implicitDefEqProofs (maxSteps := 3000000) only [go_sem, reduceCtorEq, GPairS_length])
  rw [GPairS_zero]
  refine loop_data (α := Nat × List (GPair)) (fun x => ⟨[(0, .d (.sl (GPairS l))), (3, .own 0 0 l.length), (4, .d (.int .i64 x.1))], [(0, some (.arr 2 (GPairS x.2)))]⟩)
    (fun x => x.1 ≤ l.length ∧ x.2.length = l.length ∧ x.2.take x.1 = l.take x.1) (fun x => l.length - x.1) (0, _) rfl ⟨Nat.zero_le _, by simp, by simp⟩ ?_
  rintro ⟨i, m⟩ ⟨h2, h3, h4⟩
  simp only at h2 h3 h4
  simp -implicitDefEqProofs (maxSteps := 3000000) only [go_sem, reduceCtorEq, GPairS_length]
  refine way_dec (fun h5 => ?_) (fun h5 => ?_)
  · obtain ⟨p, hp⟩ := some_at h5
    obtain ⟨q, hq⟩ := some_at (l := m) (h3 ▸ h5)
    simp -implicitDefEqProofs (maxSteps := 3000000) only [go_sem, reduceCtorEq, GPairS_length, lget_GPairS hp]
    repeat ((first | refine req (by first | assumption | omega) ?_ | refine k32 p rfl (hl.2 p (List.mem_of_getElem? hp)) ?_); simp -implicitDefEqProofs (maxSteps := 3000000) only [go_sem, reduceCtorEq, GPairS_length, lget_GPairS hp, lget_GPairS hq])
    rw [wrap_succ (by simp only [LEN]; omega)]
    try rw [GPairS_set (p := p)]
    refine next_data (i + 1, m.set i p) rfl ⟨?_, by simpa using h3, take_set hp h3 h4⟩ ?_
    · simp only; omega
    · simp only; omega
  · simp -implicitDefEqProofs (maxSteps := 3000000) only [go_sem, reduceCtorEq, GPairS_length]
    rw [List.take_of_length_le (by omega), List.take_of_length_le (by omega)] at h4
    rw [h4]
theorem k9 {h : Heap} {tb : Nat} {K : OK} {args : List V} (l : List GPair) (hg : toDs h args = some ([.sl (GPairS l)], [])) (hl : smallSl smallGPair l)
    (hk : K (.d (.sl (GPairS l))) []) : callVC Go.Proofs.Try.prog h tb 9 args K :=
  call_free hg (c9 l hl) rfl (.inl rfl) hk
@[go_sem] def hr12 : Hints
  | 0 => [0, 1] | 1 => [0, 1] | 2 => [] | 3 => [0, 1] | 4 => [0, 1, 5] | 5 => [0, 1, 5] | 6 => [0, 1, 5] | 7 => [] | 8 => [] | _ => []
@[go_sem] def hl12 : Hints
  | 4 => [0, 1, 5] | _ => []
attribute [go_sem] Go.Proofs.Try.results12
theorem c12 (l : List GPair) (hl : okSl okGPair l) : CallOK Go.Proofs.Try.prog 12 [.d (.sl (GPairS l)), .d (.sl (GPairS l))] [] [.dead, .dead] (.d (.bool true)) [] := by
  have hl1 := hl.1
  refine call_of tysZOK mixedZ Go.Proofs.Try.func12 (by kernel_rfl) rfl (np := [false, false]) (by kernel_rfl) hr12 hl12 (by simp [Go.Proofs.Try.ntmps12]) ?_
  simp -implicitDefEqProofs (maxSteps := 3000000) only [go_sem, reduceCtorEq, GPairS_length]
  refine loop_data (α := Nat) (fun i => ⟨[(0, .d (.sl (GPairS l))), (1, .d (.sl (GPairS l))), (5, .d (.int .i64 i))], []⟩)
    (fun i => i ≤ l.length) (fun i => l.length - i) 0 rfl (Nat.zero_le _) ?_
  rintro i h2
  simp -implicitDefEqProofs (maxSteps := 3000000) only [go_sem, reduceCtorEq, GPairS_length]
  refine way_dec (fun h5 => ?_) (fun h5 => ?_)
  · obtain ⟨p, hp⟩ := some_at h5
    simp -implicitDefEqProofs (maxSteps := 3000000) only [go_sem, reduceCtorEq, GPairS_length, lget_GPairS hp]
    repeat ((first | refine req (by first | assumption | omega | exact commP_of (by kernel_rfl)) ?_ | refine k39 p rfl (hl.2 p (List.mem_of_getElem? hp)) ?_); simp -implicitDefEqProofs (maxSteps := 3000000) only [go_sem, reduceCtorEq, GPairS_length, lget_GPairS hp, decide_true])
    rw [wrap_succ (by omega)]
    exact next_data (i + 1) rfl (by omega) (by omega)
  · simp -implicitDefEqProofs (maxSteps := 3000000) only [go_sem, reduceCtorEq, GPairS_length]
theorem k12 {h : Heap} {tb : Nat} {K : OK} {args : List V} {ls : List Nat} (l : List GPair) (hg : toDs h args = some ([.sl (GPairS l), .sl (GPairS l)], ls)) (hl : okSl okGPair l)
    (hk : K (.d (.bool true)) []) : callVC Go.Proofs.Try.prog h tb 12 args K :=
  call_free hg (c12 l hl) rfl (.inr ⟨.d (.bool _), flatH_nil⟩) hk

end Go.Rx

namespace Go.Rx
open Go
attribute [local irreducible] Req Way WayG Sel callVC CallOK
set_option linter.unusedSimpArgs false
set_option linter.unusedVariables false

@[go_sem] def hr111 : Hints
  | 0 => [0, 1, 2] | 1 => [0, 1, 2] | _ => []
@[go_sem] def hl111 : Hints := fun _ => []
attribute [go_sem] Go.Proofs.Try.results111
set_option maxRecDepth 100000 in
set_option maxHeartbeats 2000000 in
theorem ci_in (n lo hi : Int) : CallOK Go.Proofs.Try.prog 111 [.d (.int .i64 n), .d (.int .i64 lo), .d (.int .i64 hi)] [] [.dead, .dead, .dead] (.d (.bool (decide (lo ≤ n ∧ n ≤ hi)))) [] := by
  refine call_of tysZOK mixedZ Go.Proofs.Try.func111 (by kernel_rfl) rfl (np := [false, false, false]) (by kernel_rfl) hr111 hl111 (by simp [Go.Proofs.Try.ntmps111]) ?_
  simp -implicitDefEqProofs (maxSteps := 3000000) only [go_sem, reduceCtorEq]
  refine wayT_dec (fun h1 => ?_) (fun h1 => ?_)
  · simp -implicitDefEqProofs (maxSteps := 3000000) only [go_sem, reduceCtorEq]
    simp [h1]
  · simp -implicitDefEqProofs (maxSteps := 3000000) only [go_sem, reduceCtorEq]
    simp [h1]
theorem ki_in {h : Heap} {tb : Nat} {K : OK} {args : List V} {ls : List Nat} (n lo hi : Int) (hg : toDs h args = some ([.int .i64 n, .int .i64 lo, .int .i64 hi], ls))
    (hk : K (renV (bk tb ([])) (.d (.bool (decide (lo ≤ n ∧ n ≤ hi))))) (updN tb ([]) ([]))) : callVC Go.Proofs.Try.prog h tb 111 args K :=
  call_free hg (ci_in n lo hi) rfl (.inr ⟨flat_of rfl, flatHB_of rfl⟩) hk
@[go_sem] def hr47 : Hints
  | 0 => [0, 1, 2] | 1 => [0, 1, 2] | _ => []
@[go_sem] def hl47 : Hints := fun _ => []
attribute [go_sem] Go.Proofs.Try.results47
set_option maxRecDepth 100000 in
set_option maxHeartbeats 2000000 in
theorem cs_in (n lo hi : Int) : CallOK Go.Proofs.Try.prog 47 [.d (.int .i64 n), .d (.int .i64 lo), .d (.int .i64 hi)] [] [.dead, .dead, .dead] (.d (.bool (decide (lo ≤ n ∧ n ≤ hi)))) [] := by
  refine call_of tysZOK mixedZ Go.Proofs.Try.func47 (by kernel_rfl) rfl (np := [false, false, false]) (by kernel_rfl) hr47 hl47 (by simp [Go.Proofs.Try.ntmps47]) ?_
  simp -implicitDefEqProofs (maxSteps := 3000000) only [go_sem, reduceCtorEq]
  refine wayT_dec (fun h1 => ?_) (fun h1 => ?_)
  · simp -implicitDefEqProofs (maxSteps := 3000000) only [go_sem, reduceCtorEq]
    simp [h1]
  · simp -implicitDefEqProofs (maxSteps := 3000000) only [go_sem, reduceCtorEq]
    simp [h1]
theorem ks_in {h : Heap} {tb : Nat} {K : OK} {args : List V} {ls : List Nat} (n lo hi : Int) (hg : toDs h args = some ([.int .i64 n, .int .i64 lo, .int .i64 hi], ls))
    (hk : K (renV (bk tb ([])) (.d (.bool (decide (lo ≤ n ∧ n ≤ hi))))) (updN tb ([]) ([]))) : callVC Go.Proofs.Try.prog h tb 47 args K :=
  call_free hg (cs_in n lo hi) rfl (.inr ⟨flat_of rfl, flatHB_of rfl⟩) hk
@[go_sem] def hr125 : Hints
  | 0 => [0] | 1 => [0] | 2 => [0, 3] | 3 => [0, 3] | 4 => [0, 3] | 5 => [0, 3] | _ => []
@[go_sem] def hl125 : Hints
  | 2 => [0, 3] | _ => []
attribute [go_sem] Go.Proofs.Try.results125
set_option maxRecDepth 100000 in
set_option maxHeartbeats 2000000 in
theorem ci_varText (n : Nat) (hn : n < 9223372036854775808) : CallOK Go.Proofs.Try.prog 125 [.d (.int .i64 n)] [] [.dead] (.d (.str (varB n))) [] := by
  refine call_of tysZOK mixedZ Go.Proofs.Try.func125 (by kernel_rfl) rfl (np := [false]) (by kernel_rfl) hr125 hl125 (by simp [Go.Proofs.Try.ntmps125]) ?_
  simp -implicitDefEqProofs (maxSteps := 3000000) only [go_sem, reduceCtorEq]
  refine loop_data (α := List UInt8 × Nat) (fun x => ⟨[(0, .d (.int .i64 x.2)), (3, .own 0 0 x.1.length)], [(0, some (.arr 1 (bys x.1)))]⟩)
    (fun x => x.1 ++ varB x.2 = varB n ∧ x.2 < 9223372036854775808) (fun x => x.2) ([], n) rfl ⟨rfl, hn⟩ ?_
  rintro ⟨out, m⟩ ⟨h1, h2⟩
  simp only at h1 h2
  have hl : out.length ≤ 9 := by have := varB_len9 hn; rw [← h1, List.length_append] at this; omega
  simp -implicitDefEqProofs (maxSteps := 3000000) only [go_sem, reduceCtorEq]
  refine way_dec (fun h3 => ?_) (fun h3 => ?_)
  · have e1 := and64 (a := m) (b := 127) h2 (by omega)
    rw [and127] at e1
    have e2 := or64 (a := m % 128) (b := 128) (by omega) (by omega)
    rw [or128 (by omega)] at e2
    have e3 := shr64 (a := m) (k := 7) (by omega)
    simp only [Int.cast_ofNat_Int] at e1 e2 e3
    simp -implicitDefEqProofs (maxSteps := 3000000) only [go_sem, reduceCtorEq, e1, e2, e3, byteCell_of]
    repeat ((first | refine req (by first | omega | assumption | exact commP_of (by kernel_rfl) | (simp only [LEN, List.length_append, List.length_cons, List.length_nil]; omega) | (simp [D.one]; omega) | (simp [D.one]; done)) ?_); simp -implicitDefEqProofs (maxSteps := 3000000) only [go_sem, reduceCtorEq, e1, e2, e3, byteCell_of])
    refine next_data (out ++ [UInt8.ofNat (m % 128 + 128)], m / 128) (by simp) ⟨?_, ?_⟩ ?_
    · simp only; rw [varB_step (by omega)]; exact h1
    · simp only; omega
    · simp only; omega
  · simp -implicitDefEqProofs (maxSteps := 3000000) only [go_sem, reduceCtorEq, byteCell_of]
    repeat ((first | refine req rfl ?_ | refine req (by first | omega | assumption | exact commP_of (by kernel_rfl) | (simp only [LEN, List.length_append, List.length_cons, List.length_nil]; omega) | (simp [D.one]; omega) | (simp [D.one]; done)) ?_); simp -implicitDefEqProofs (maxSteps := 3000000) only [go_sem, reduceCtorEq, byteCell_of, bys_back, bys_str])
    rw [varB_small (by omega)] at h1
    rw [h1]
theorem ki_varText {h : Heap} {tb : Nat} {K : OK} {args : List V} {ls : List Nat} (n : Nat) (hn : n < 9223372036854775808) (hg : toDs h args = some ([.int .i64 n], ls))
    (hk : K (renV (bk tb ([])) (.d (.str (varB n)))) (updN tb ([]) ([]))) : callVC Go.Proofs.Try.prog h tb 125 args K :=
  call_free hg (ci_varText n hn) rfl (.inr ⟨flat_of rfl, flatHB_of rfl⟩) hk
@[go_sem] def hr106 : Hints
  | 0 => [0] | 1 => [0] | 2 => [0, 3] | 3 => [0, 3] | 4 => [0, 3] | 5 => [0, 3] | _ => []
@[go_sem] def hl106 : Hints
  | 2 => [0, 3] | _ => []
attribute [go_sem] Go.Proofs.Try.results106
set_option maxRecDepth 100000 in
set_option maxHeartbeats 2000000 in
theorem cs_varText (n : Nat) (hn : n < 9223372036854775808) : CallOK Go.Proofs.Try.prog 106 [.d (.int .i64 n)] [] [.dead] (.d (.str (varB n))) [] := by
  refine call_of tysZOK mixedZ Go.Proofs.Try.func106 (by kernel_rfl) rfl (np := [false]) (by kernel_rfl) hr106 hl106 (by simp [Go.Proofs.Try.ntmps106]) ?_
  simp -implicitDefEqProofs (maxSteps := 3000000) only [go_sem, reduceCtorEq]
  refine loop_data (α := List UInt8 × Nat) (fun x => ⟨[(0, .d (.int .i64 x.2)), (3, .own 0 0 x.1.length)], [(0, some (.arr 1 (bys x.1)))]⟩)
    (fun x => x.1 ++ varB x.2 = varB n ∧ x.2 < 9223372036854775808) (fun x => x.2) ([], n) rfl ⟨rfl, hn⟩ ?_
  rintro ⟨out, m⟩ ⟨h1, h2⟩
  simp only at h1 h2
  have hl : out.length ≤ 9 := by have := varB_len9 hn; rw [← h1, List.length_append] at this; omega
  simp -implicitDefEqProofs (maxSteps := 3000000) only [go_sem, reduceCtorEq]
  refine way_dec (fun h3 => ?_) (fun h3 => ?_)
  · have e1 : (m : Int).tmod 128 = ((m % 128 : Nat) : Int) := by rw [Int.tmod_eq_emod_of_nonneg (by omega)]; omega
    have e2 : IntKind.i64.wrap (((m % 128 : Nat) : Int) + 128) = ((m % 128 + 128 : Nat) : Int) := by rw [wrap_int (by omega) (by omega)]; omega
    have e3 : IntKind.i64.wrap ((m : Int).tdiv 128) = ((m / 128 : Nat) : Int) := by rw [Int.tdiv_eq_ediv_of_nonneg (by omega), wrap_int (by omega) (by omega)]; omega
    simp -implicitDefEqProofs (maxSteps := 3000000) only [go_sem, reduceCtorEq, e1, e2, e3, byteCell_of]
    repeat ((first | refine req (by first | omega | assumption | exact commP_of (by kernel_rfl) | (simp only [LEN, List.length_append, List.length_cons, List.length_nil]; omega) | (simp [D.one]; omega) | (simp [D.one]; done)) ?_); simp -implicitDefEqProofs (maxSteps := 3000000) only [go_sem, reduceCtorEq, e1, e2, e3, byteCell_of])
    refine next_data (out ++ [UInt8.ofNat (m % 128 + 128)], m / 128) (by simp) ⟨?_, ?_⟩ ?_
    · simp only; rw [varB_step (by omega)]; exact h1
    · simp only; omega
    · simp only; omega
  · simp -implicitDefEqProofs (maxSteps := 3000000) only [go_sem, reduceCtorEq, byteCell_of]
    repeat ((first | refine req rfl ?_ | refine req (by first | omega | assumption | exact commP_of (by kernel_rfl) | (simp only [LEN, List.length_append, List.length_cons, List.length_nil]; omega) | (simp [D.one]; omega) | (simp [D.one]; done)) ?_); simp -implicitDefEqProofs (maxSteps := 3000000) only [go_sem, reduceCtorEq, byteCell_of, bys_back, bys_str])
    rw [varB_small (by omega)] at h1
    rw [h1]
theorem ks_varText {h : Heap} {tb : Nat} {K : OK} {args : List V} {ls : List Nat} (n : Nat) (hn : n < 9223372036854775808) (hg : toDs h args = some ([.int .i64 n], ls))
    (hk : K (renV (bk tb ([])) (.d (.str (varB n)))) (updN tb ([]) ([]))) : callVC Go.Proofs.Try.prog h tb 106 args K :=
  call_free hg (cs_varText n hn) rfl (.inr ⟨flat_of rfl, flatHB_of rfl⟩) hk

/-! readings -/
def rvV : Option (Nat × Nat) → V
  | none => .tup [.d (.int .i64 0), .d (.int .i64 0), .d (.bool false)]
  | some (n, a) => .tup [.d (.int .i64 n), .d (.int .i64 a), .d (.bool true)]
theorem flat_rvV {o : Option (Nat × Nat)} : FlatV (rvV o) := by rcases o with _ | ⟨n, a⟩ <;> exact flat_of rfl

@[go_sem] def hr113 : Hints
  | 0 => [0, 1] | 1 => [0, 1] | 2 => [] | 3 => [0, 1] | 4 => [0, 1, 7] | 5 => [0, 1, 7, 8] | 6 => [0, 1, 7, 8] | 7 => [0, 1, 7, 8] | 8 => [0, 1, 7, 8, 9] | 9 => [0, 1, 7, 8, 9] | 10 => [1, 7, 8, 9] | 11 => [] | 12 => [1, 7, 8] | 13 => [] | _ => []
@[go_sem] def hl113 : Hints
  | 5 => [0, 1, 7, 8] | _ => []
attribute [go_sem] Go.Proofs.Try.results113
set_option maxRecDepth 100000 in
set_option maxHeartbeats 2000000 in
theorem ci_ReadVar (t : List UInt8) (a : Int) (ht : t.length ≤ 4611686018427387904) : CallOK Go.Proofs.Try.prog 113 [.d (.str t), .d (.int .i64 a)] [] [.dead, .dead] (rvV (readVar t a)) [] := by
  refine call_of tysZOK mixedZ Go.Proofs.Try.func113 (by kernel_rfl) rfl (np := [false, false]) (by kernel_rfl) hr113 hl113 (by simp [Go.Proofs.Try.ntmps113]) ?_
  simp -implicitDefEqProofs (maxSteps := 3000000) only [go_sem, reduceCtorEq]
  refine ki_in _ _ _ rfl ?_
  simp -implicitDefEqProofs (maxSteps := 3000000) only [go_sem, reduceCtorEq]
  refine way_ndec (fun h0 => ?_) (fun h0 => ?_)
  · simp -implicitDefEqProofs (maxSteps := 3000000) only [go_sem, reduceCtorEq]
    rw [readVar, if_neg h0]; rfl
  · obtain ⟨a, rfl⟩ := Int.eq_ofNat_of_zero_le h0.1
    simp -implicitDefEqProofs (maxSteps := 3000000) only [go_sem, reduceCtorEq]
    refine loop_data (α := Nat × Nat) (fun x => ⟨[(0, .d (.str t)), (1, .d (.int .i64 a)), (7, .d (.int .i64 x.2)), (8, .d (.int .i64 x.1))], []⟩)
      (fun x => x.1 ≤ 5 ∧ x.2 < 128 ^ x.1 ∧ a + x.1 ≤ t.length ∧ rvGo x.1 x.2 (t.drop (a + x.1)) = rv (t.drop a)) (fun x => 5 - x.1) (0, 0) rfl ⟨by omega, by simp, by omega, by simp [rv]⟩ ?_
    rintro ⟨k, n⟩ ⟨h1, h2, h3, h4⟩
    simp only at h1 h2 h3 h4
    have hadd : IntKind.i64.wrap ((a : Int) + (k : Int)) = ((a + k : Nat) : Int) := by rw [wrap_int (by omega) (by omega)]; omega
    simp -implicitDefEqProofs (maxSteps := 3000000) only [go_sem, reduceCtorEq, hadd]
    refine wayT_dec (fun h5 => ?_) (fun h5 => ?_)
    · simp -implicitDefEqProofs (maxSteps := 3000000) only [go_sem, reduceCtorEq, hadd]
      refine way_dec (fun h6 => ?_) (fun h6 => ?_)
      · obtain ⟨x, hx⟩ := some_at h6
        rw [drop_cons hx] at h4
        have hx0 := byte_lt x
        have hp : 128 ^ (k + 1) ≤ 128 ^ 5 := Nat.pow_le_pow_right (by omega) (by omega)
        have hp5 : (128 : Nat) ^ 5 = 34359738368 := by decide
        have hps : 128 ^ (k + 1) = 128 ^ k * 128 := Nat.pow_succ ..
        have e0 : IntKind.i64.wrap ((x.toNat : Nat) : Int) = (x.toNat : Nat) := wrap_nat (by omega)
        have e1 := and64 (a := x.toNat) (b := 127) (by omega) (by omega)
        rw [and127] at e1
        have hm : x.toNat % 128 * 128 ^ k ≤ 127 * 128 ^ k := Nat.mul_le_mul_right _ (by omega)
        have e2 := shl64 (a := x.toNat % 128) (k := 7 * k) (by omega) (by rw [pow7]; omega)
        have e3 := or64 (a := n) (b := x.toNat % 128 * 2 ^ (7 * k)) (by omega) (by rw [pow7]; omega)
        rw [or_apart (by rw [pow7]; exact h2), pow7] at e3
        rw [pow7] at e2
        have e4 : IntKind.i64.wrap (7 * (k : Int)) = ((7 * k : Nat) : Int) := by rw [wrap_int (by omega) (by omega)]; omega
        simp only [Int.cast_ofNat_Int] at e1 e2 e3
        simp -implicitDefEqProofs (maxSteps := 3000000) only [go_sem, reduceCtorEq, hadd, getD_some hx, e0, e1, e2, e3, e4]
        repeat ((first | refine req (by first | omega | assumption | exact commP_of (by kernel_rfl) | (simp only [LEN, List.length_append, List.length_cons, List.length_nil]; omega) | (simp [D.one]; omega) | (simp [D.one]; done)) ?_); simp -implicitDefEqProofs (maxSteps := 3000000) only [go_sem, reduceCtorEq, hadd, getD_some hx, e0, e1, e2, e3, e4])
        refine way_dec (fun h7 => ?_) (fun h7 => ?_)
        · simp -implicitDefEqProofs (maxSteps := 3000000) only [go_sem, reduceCtorEq]
          rw [rvGo, if_neg (by omega), if_pos (by omega)] at h4
          refine next_data (k + 1, n + x.toNat % 128 * 128 ^ k) ?_ ⟨?_, ?_, ?_, ?_⟩ ?_
          · rw [wrap_succ (by simp only [LEN]; omega)]
          · simp only; omega
          · simp only; omega
          · simp only; omega
          · simp only; rw [← h4]; congr 1
          · simp only; omega
        · simp -implicitDefEqProofs (maxSteps := 3000000) only [go_sem, reduceCtorEq]
          rw [rvGo, if_neg (by omega), if_neg (by omega)] at h4
          have hmod : x.toNat % 128 = x.toNat := by omega
          rw [hmod]
          (first | (refine way_dec (fun h8 => ?_) (fun h8 => ?_)) | (refine way_ndec (fun h8 => ?_) (fun h8 => ?_)) | (refine wayT_dec (fun h8 => ?_) (fun h8 => ?_)) | (refine wayF_dec (fun h8 => ?_) (fun h8 => ?_)) | (refine wayT_ndec (fun h8 => ?_) (fun h8 => ?_)) | (refine wayF_ndec (fun h8 => ?_) (fun h8 => ?_)) | (refine way_not (fun h8 => ?_) (fun h8 => ?_)) | (refine way (fun h8 => ?_) (fun h8 => ?_)) | (refine wayT (fun h8 => ?_) (fun h8 => ?_)) | (refine wayF (fun h8 => ?_) (fun h8 => ?_)))
          · simp -implicitDefEqProofs (maxSteps := 3000000) only [go_sem, reduceCtorEq]
            (first | (refine way_dec (fun h9 => ?_) (fun h9 => ?_)) | (refine way_ndec (fun h9 => ?_) (fun h9 => ?_)) | (refine wayT_dec (fun h9 => ?_) (fun h9 => ?_)) | (refine wayF_dec (fun h9 => ?_) (fun h9 => ?_)) | (refine wayT_ndec (fun h9 => ?_) (fun h9 => ?_)) | (refine wayF_ndec (fun h9 => ?_) (fun h9 => ?_)) | (refine way_not (fun h9 => ?_) (fun h9 => ?_)) | (refine way (fun h9 => ?_) (fun h9 => ?_)) | (refine wayT (fun h9 => ?_) (fun h9 => ?_)) | (refine wayF (fun h9 => ?_) (fun h9 => ?_)))
            · simp -implicitDefEqProofs (maxSteps := 3000000) only [go_sem, reduceCtorEq]
              (first | (refine way_dec (fun h10 => ?_) (fun h10 => ?_)) | (refine way_ndec (fun h10 => ?_) (fun h10 => ?_)) | (refine wayT_dec (fun h10 => ?_) (fun h10 => ?_)) | (refine wayF_dec (fun h10 => ?_) (fun h10 => ?_)) | (refine wayT_ndec (fun h10 => ?_) (fun h10 => ?_)) | (refine wayF_ndec (fun h10 => ?_) (fun h10 => ?_)) | (refine way_not (fun h10 => ?_) (fun h10 => ?_)) | (refine way (fun h10 => ?_) (fun h10 => ?_)) | (refine wayT (fun h10 => ?_) (fun h10 => ?_)) | (refine wayF (fun h10 => ?_) (fun h10 => ?_)))
              · simp -implicitDefEqProofs (maxSteps := 3000000) only [go_sem, reduceCtorEq]
                rw [if_pos (by omega)] at h4
                rw [readVar, if_pos h0, Int.toNat_natCast, ← h4]; rfl
              · simp -implicitDefEqProofs (maxSteps := 3000000) only [go_sem, reduceCtorEq]
                rw [if_neg (by omega)] at h4
                rw [readVar, if_pos h0, Int.toNat_natCast, ← h4]
                have g1 : IntKind.i64.wrap (((a + k : Nat) : Int) + 1) = ((a + k + 1 : Nat) : Int) := by rw [wrap_int (by omega) (by omega)]; omega
                have g2 : t.length - (t.length - (a + k + 1)) = a + k + 1 := by omega
                simp only [Option.map_some, rvV, List.length_drop, hadd, g1, g2]
            · simp -implicitDefEqProofs (maxSteps := 3000000) only [go_sem, reduceCtorEq]
              rw [if_pos (by omega)] at h4
              rw [readVar, if_pos h0, Int.toNat_natCast, ← h4]; rfl
          · simp -implicitDefEqProofs (maxSteps := 3000000) only [go_sem, reduceCtorEq]
            (first | (refine way_dec (fun h10 => ?_) (fun h10 => ?_)) | (refine way_ndec (fun h10 => ?_) (fun h10 => ?_)) | (refine wayT_dec (fun h10 => ?_) (fun h10 => ?_)) | (refine wayF_dec (fun h10 => ?_) (fun h10 => ?_)) | (refine wayT_ndec (fun h10 => ?_) (fun h10 => ?_)) | (refine wayF_ndec (fun h10 => ?_) (fun h10 => ?_)) | (refine way_not (fun h10 => ?_) (fun h10 => ?_)) | (refine way (fun h10 => ?_) (fun h10 => ?_)) | (refine wayT (fun h10 => ?_) (fun h10 => ?_)) | (refine wayF (fun h10 => ?_) (fun h10 => ?_)))
            · simp -implicitDefEqProofs (maxSteps := 3000000) only [go_sem, reduceCtorEq]
              rw [if_pos (by omega)] at h4
              rw [readVar, if_pos h0, Int.toNat_natCast, ← h4]; rfl
            · simp -implicitDefEqProofs (maxSteps := 3000000) only [go_sem, reduceCtorEq]
              rw [if_neg (by omega)] at h4
              rw [readVar, if_pos h0, Int.toNat_natCast, ← h4]
              have g1 : IntKind.i64.wrap (((a + k : Nat) : Int) + 1) = ((a + k + 1 : Nat) : Int) := by rw [wrap_int (by omega) (by omega)]; omega
              have g2 : t.length - (t.length - (a + k + 1)) = a + k + 1 := by omega
              simp only [Option.map_some, rvV, List.length_drop, hadd, g1, g2]
      · simp -implicitDefEqProofs (maxSteps := 3000000) only [go_sem, reduceCtorEq]
        rw [List.drop_eq_nil_of_le (by omega)] at h4
        rw [readVar, if_pos h0, Int.toNat_natCast, ← h4]; rfl
    · simp -implicitDefEqProofs (maxSteps := 3000000) only [go_sem, reduceCtorEq]
      have : rvGo k n (t.drop (a + k)) = none := by
        cases t.drop (a + k) with
        | nil => rfl
        | cons x l => rw [rvGo, if_pos (by omega)]
      rw [this] at h4
      rw [readVar, if_pos h0, Int.toNat_natCast, ← h4]; rfl
theorem ki_ReadVar {h : Heap} {tb : Nat} {K : OK} {args : List V} {ls : List Nat} (t : List UInt8) (a : Int) (ht : t.length ≤ 4611686018427387904) (hg : toDs h args = some ([.str t, .int .i64 a], ls)) (hfl : FlatV (rvV (readVar t a)) ∧ FlatH ([]))
    (hk : K (renV (bk tb ([])) (rvV (readVar t a))) (updN tb ([]) ([]))) : callVC Go.Proofs.Try.prog h tb 113 args K :=
  call_free hg (ci_ReadVar t a ht) rfl (.inr hfl) hk
end Go.Rx

namespace Go.Rx
open Go
attribute [local irreducible] Req Way WayG Sel callVC CallOK
set_option linter.unusedSimpArgs false
set_option linter.unusedVariables false

/-- The number that stands in some bytes, and whether they are its shortest form. -/
theorem rvGo_low : ∀ {l : List UInt8} {k n : Nat} {v : Nat} {rest : List UInt8}, rvGo k n l = some (v, rest) → n ≤ v
  | [], k, n, v, rest, h => by cases h
  | x :: l, k, n, v, rest, h => by
    obtain ⟨_, m, h2, _, _⟩ := rvGo_iff.1 h
    rw [h2]; exact Nat.le_add_right _ _

/-- Bytes ahead of the last one: each says that it goes on. -/
def more (l : List UInt8) : Prop := ∀ x ∈ l, 127 < x.toNat
def valB : List UInt8 → Nat
  | [] => 0
  | x :: l => x.toNat % 128 + 128 * valB l
theorem valB_snoc {l : List UInt8} {x : UInt8} : valB (l ++ [x]) = valB l + x.toNat % 128 * 128 ^ l.length := by
  induction l with
  | nil => simp [valB]
  | cons y l ih =>
    simp only [List.cons_append, valB, List.length_cons, ih, Nat.mul_add, Nat.pow_succ]
    have : 128 * (x.toNat % 128 * 128 ^ l.length) = x.toNat % 128 * (128 ^ l.length * 128) := by rw [Nat.mul_comm, Nat.mul_assoc]
    omega
theorem valB_lt {l : List UInt8} : valB l < 128 ^ l.length := by
  induction l with
  | nil => simp [valB]
  | cons y l ih => simp only [valB, List.length_cons, Nat.pow_succ]; have := byte_lt y; omega
theorem rvGo_more : ∀ {l : List UInt8} {r : List UInt8} {k n : Nat}, more l → k + l.length ≤ 5 → rvGo k n (l ++ r) = rvGo (k + l.length) (n + valB l * 128 ^ k) r
  | [], r, k, n, _, _ => by simp [valB]
  | x :: l, r, k, n, h, hk => by
    simp only [List.length_cons] at hk
    rw [List.cons_append, rvGo, if_neg (by omega), if_pos (h x (by simp)), rvGo_more (fun y hy => h y (by simp [hy])) (by omega)]
    simp only [List.length_cons, valB]
    congr 1
    · omega
    · rw [Nat.pow_succ, Nat.add_mul, Nat.mul_comm 128 (valB l), Nat.mul_assoc, Nat.mul_comm 128, Nat.add_assoc]
/-- At the last byte: the shortest form is what is taken. -/
theorem rv_last {l r : List UInt8} {x : UInt8} (hm : more l) (hl : l.length < 5) (hx : x.toNat < 128) :
    rv (l ++ x :: r) = if 1000000000 < valB (l ++ [x]) ∨ varB (valB (l ++ [x])) ≠ l ++ [x] then none else some (valB (l ++ [x]), r) := by
  have h0 : rv (l ++ x :: r) = rvGo l.length (valB l) (x :: r) := by
    unfold rv; rw [rvGo_more hm (by omega)]; simp
  have hv : valB (l ++ [x]) = valB l + x.toNat * 128 ^ l.length := by rw [valB_snoc, Nat.mod_eq_of_lt hx]
  split
  · rename_i h
    rw [h0, rvGo, if_neg (by omega), if_neg (by omega)]
    split
    · rfl
    · rename_i h2
      exfalso
      have h3 : rv (l ++ x :: r) = some (valB (l ++ [x]), r) := by
        rw [h0, rvGo, if_neg (by omega), if_neg (by omega), if_neg h2, hv]
      obtain ⟨g1, g2⟩ := rv_iff.1 h3
      rcases h with h | h
      · omega
      · have : l ++ [x] ++ r = varB (valB (l ++ [x])) ++ r := by rw [← g2]; simp
        exact h (List.append_cancel_right this).symm
  · rename_i h
    exact rv_iff.2 ⟨by omega, by rw [Decidable.byContradiction fun e => h (.inr e)]; simp⟩
theorem rv_long {l : List UInt8} (hm : more l) (hl : l.length = 5) {r : List UInt8} : rv (l ++ r) = none := by
  unfold rv; rw [rvGo_more hm (by omega)]
  cases r with
  | nil => rfl
  | cons x r => rw [rvGo, if_pos (by omega)]
theorem rv_short {l : List UInt8} (hm : more l) (hl : l.length ≤ 5) : rv l = none := by
  have := rvGo_more (r := []) (k := 0) (n := 0) hm (by omega)
  rw [List.append_nil] at this
  unfold rv; rw [this]; rfl

@[go_sem] def hr142 : Hints
  | 0 => [0, 1] | 1 => [0, 1] | 2 => [] | 3 => [0, 1] | 4 => [0, 1, 7] | 5 => [0, 1, 7, 8] | 6 => [0, 1, 7, 8, 9] | 7 => [0, 1, 7, 8, 9] | 8 => [0, 1, 7, 8, 9] | 9 => [0, 1, 7, 8, 9] | 10 => [0, 1, 7, 8, 9] | 11 => [0, 1, 7, 9] | 12 => [] | 13 => [7, 9] | 14 => [] | _ => []
@[go_sem] def hl142 : Hints
  | 6 => [0, 1, 7, 8, 9] | _ => []
attribute [go_sem] Go.Proofs.Try.results142
set_option maxRecDepth 100000 in
set_option maxHeartbeats 2000000 in
theorem cs_ReadVar (t : List UInt8) (a : Int) (ht : t.length ≤ 4611686018427387904) : CallOK Go.Proofs.Try.prog 142 [.d (.str t), .d (.int .i64 a)] [] [.dead, .dead] (rvV (readVar t a)) [] := by
  refine call_of tysZOK mixedZ Go.Proofs.Try.func142 (by kernel_rfl) rfl (np := [false, false]) (by kernel_rfl) hr142 hl142 (by simp [Go.Proofs.Try.ntmps142]) ?_
  simp -implicitDefEqProofs (maxSteps := 3000000) only [go_sem, reduceCtorEq]
  refine ks_in _ _ _ rfl ?_
  simp -implicitDefEqProofs (maxSteps := 3000000) only [go_sem, reduceCtorEq]
  refine way_ndec (fun h0 => ?_) (fun h0 => ?_)
  · simp -implicitDefEqProofs (maxSteps := 3000000) only [go_sem, reduceCtorEq]
    rw [readVar, if_neg h0]; rfl
  · obtain ⟨a, rfl⟩ := Int.eq_ofNat_of_zero_le h0.1
    simp -implicitDefEqProofs (maxSteps := 3000000) only [go_sem, reduceCtorEq]
    refine loop_data (α := Nat) (fun k => ⟨[(0, .d (.str t)), (1, .d (.int .i64 a)), (7, .d (.int .i64 (valB ((t.drop a).take k) : Nat))), (8, .d (.int .i64 (128 ^ k : Nat))), (9, .d (.int .i64 ((a + k : Nat) : Int)))], []⟩)
      (fun k => k ≤ 5 ∧ a + k ≤ t.length ∧ more ((t.drop a).take k)) (fun k => 5 - k) 0 ?_ ⟨by omega, by omega, fun x hx => by simp at hx⟩ ?_
    · simp [valB]
    rintro k ⟨h1, h2, h3⟩
    have hadd : IntKind.i64.wrap ((a : Int) + 5) = ((a + 5 : Nat) : Int) := by rw [wrap_int (by omega) (by omega)]; omega
    have hlen : ((t.drop a).take k).length = k := by simp; omega
    have hsplit : t.drop a = (t.drop a).take k ++ t.drop (a + k) := by rw [← List.drop_drop, List.take_append_drop]
    have hvl := valB_lt (l := (t.drop a).take k)
    rw [hlen] at hvl
    simp -implicitDefEqProofs (maxSteps := 3000000) only [go_sem, reduceCtorEq, hadd]
    (first | (refine way_dec (fun h5 => ?_) (fun h5 => ?_)) | (refine way_ndec (fun h5 => ?_) (fun h5 => ?_)) | (refine wayT_dec (fun h5 => ?_) (fun h5 => ?_)) | (refine wayF_dec (fun h5 => ?_) (fun h5 => ?_)) | (refine wayT_ndec (fun h5 => ?_) (fun h5 => ?_)) | (refine wayF_ndec (fun h5 => ?_) (fun h5 => ?_)) | (refine way_not (fun h5 => ?_) (fun h5 => ?_)) | (refine way (fun h5 => ?_) (fun h5 => ?_)) | (refine wayT (fun h5 => ?_) (fun h5 => ?_)) | (refine wayF (fun h5 => ?_) (fun h5 => ?_)))
    · simp -implicitDefEqProofs (maxSteps := 3000000) only [go_sem, reduceCtorEq, hadd]
      (first | (refine way_dec (fun h6 => ?_) (fun h6 => ?_)) | (refine way_ndec (fun h6 => ?_) (fun h6 => ?_)) | (refine wayT_dec (fun h6 => ?_) (fun h6 => ?_)) | (refine wayF_dec (fun h6 => ?_) (fun h6 => ?_)) | (refine wayT_ndec (fun h6 => ?_) (fun h6 => ?_)) | (refine wayF_ndec (fun h6 => ?_) (fun h6 => ?_)) | (refine way_not (fun h6 => ?_) (fun h6 => ?_)) | (refine way (fun h6 => ?_) (fun h6 => ?_)) | (refine wayT (fun h6 => ?_) (fun h6 => ?_)) | (refine wayF (fun h6 => ?_) (fun h6 => ?_)))
      · obtain ⟨x, hx⟩ := some_at (l := t) (i := a + k) h5
        have hx0 := byte_lt x
        have hp : 128 ^ (k + 1) ≤ 128 ^ 5 := Nat.pow_le_pow_right (by omega) (by omega)
        have hp5 : (128 : Nat) ^ 5 = 34359738368 := by decide
        have hps : 128 ^ (k + 1) = 128 ^ k * 128 := Nat.pow_succ ..
        have hd : (t.drop a)[k]? = some x := by rw [List.getElem?_drop]; exact hx
        have e0 : IntKind.i64.wrap ((x.toNat : Nat) : Int) = (x.toNat : Nat) := wrap_nat (by omega)
        have e1 : ((x.toNat : Nat) : Int).tmod 128 = ((x.toNat % 128 : Nat) : Int) := by rw [Int.tmod_eq_emod_of_nonneg (by omega)]; omega
        have hm : x.toNat % 128 * 128 ^ k ≤ 127 * 128 ^ k := Nat.mul_le_mul_right _ (by omega)
        have e2 : IntKind.i64.wrap (((x.toNat % 128 : Nat) : Int) * ((128 ^ k : Nat) : Int)) = ((x.toNat % 128 * 128 ^ k : Nat) : Int) := by
          have : (((x.toNat % 128 : Nat) : Int) * ((128 ^ k : Nat) : Int)) = ((x.toNat % 128 * 128 ^ k : Nat) : Int) := by norm_cast
          rw [this]; exact wrap_nat (by omega)
        have e3 : IntKind.i64.wrap ((valB ((t.drop a).take k) : Nat) + ((x.toNat % 128 * 128 ^ k : Nat) : Int)) = ((valB ((t.drop a).take (k + 1)) : Nat) : Int) := by
          rw [take_snoc hd, valB_snoc, hlen, wrap_int (by omega) (by omega)]; omega
        have e4 : IntKind.i64.wrap (((128 ^ k : Nat) : Int) * 128) = ((128 ^ (k + 1) : Nat) : Int) := by rw [wrap_int (by omega) (by omega)]; omega
        have e5 : IntKind.i64.wrap (((a + k : Nat) : Int) + 1) = ((a + (k + 1) : Nat) : Int) := by rw [wrap_int (by omega) (by omega)]; omega
        have hv2 := valB_lt (l := (t.drop a).take (k + 1))
        have hl2 : ((t.drop a).take (k + 1)).length = k + 1 := by simp; omega
        rw [hl2] at hv2
        have hsl : (t.take (a + (k + 1))).drop a = (t.drop a).take (k + 1) := by rw [List.drop_take]; congr 1; omega
        have hdx := drop_cons hx
        simp -implicitDefEqProofs (maxSteps := 3000000) only [go_sem, reduceCtorEq, hadd, getD_some hx, e0, e1, e2, e3, e4, e5]
        repeat ((first | refine req (by first | omega | assumption | exact commP_of (by kernel_rfl) | (simp only [LEN, List.length_append, List.length_cons, List.length_nil]; omega) | (simp [D.one]; omega) | (simp [D.one]; done)) ?_); simp -implicitDefEqProofs (maxSteps := 3000000) only [go_sem, reduceCtorEq, hadd, getD_some hx, e0, e1, e2, e3, e4, e5])
        (first | (refine way_dec (fun h7 => ?_) (fun h7 => ?_)) | (refine way_ndec (fun h7 => ?_) (fun h7 => ?_)) | (refine wayT_dec (fun h7 => ?_) (fun h7 => ?_)) | (refine wayF_dec (fun h7 => ?_) (fun h7 => ?_)) | (refine wayT_ndec (fun h7 => ?_) (fun h7 => ?_)) | (refine wayF_ndec (fun h7 => ?_) (fun h7 => ?_)) | (refine way_not (fun h7 => ?_) (fun h7 => ?_)) | (refine way (fun h7 => ?_) (fun h7 => ?_)) | (refine wayT (fun h7 => ?_) (fun h7 => ?_)) | (refine wayF (fun h7 => ?_) (fun h7 => ?_)))
        · have hx7 : x.toNat < 128 := by omega
          have hrv := rv_last (r := t.drop (a + k + 1)) h3 (by omega) hx7
          rw [← hdx, ← hsplit, ← take_snoc hd] at hrv
          by_cases h8 : (1000000000 : Int) < ((valB ((t.drop a).take (k + 1)) : Nat) : Int)
          · have d8 := decide_eq_true h8
            simp -implicitDefEqProofs (maxSteps := 3000000) only [go_sem, reduceCtorEq, d8]
            repeat ((first | refine req (by first | omega | assumption | exact commP_of (by kernel_rfl) | (simp only [LEN, List.length_append, List.length_cons, List.length_nil]; omega) | (simp [D.one]; omega) | (simp [D.one]; done)) ?_); simp -implicitDefEqProofs (maxSteps := 3000000) only [go_sem, reduceCtorEq, d8])
            rw [if_pos (.inl (by omega))] at hrv
            rw [readVar, if_pos h0, Int.toNat_natCast, hrv]; rfl
          · have d8 := decide_eq_false h8
            simp -implicitDefEqProofs (maxSteps := 3000000) only [go_sem, reduceCtorEq, d8]
            refine ks_varText (valB ((t.drop a).take (k + 1))) (by omega) rfl ?_
            simp -implicitDefEqProofs (maxSteps := 3000000) only [go_sem, reduceCtorEq, d8, e5, hsl]
            repeat ((first | refine req (by first | omega | assumption | exact commP_of (by kernel_rfl) | (simp only [LEN, List.length_append, List.length_cons, List.length_nil]; omega) | (simp [D.one]; omega) | (simp [D.one]; done)) ?_); simp -implicitDefEqProofs (maxSteps := 3000000) only [go_sem, reduceCtorEq, d8, e5, hsl])
            (first | (refine way_dec (fun h9 => ?_) (fun h9 => ?_)) | (refine way_ndec (fun h9 => ?_) (fun h9 => ?_)) | (refine wayT_dec (fun h9 => ?_) (fun h9 => ?_)) | (refine wayF_dec (fun h9 => ?_) (fun h9 => ?_)) | (refine wayT_ndec (fun h9 => ?_) (fun h9 => ?_)) | (refine wayF_ndec (fun h9 => ?_) (fun h9 => ?_)) | (refine way_not (fun h9 => ?_) (fun h9 => ?_)) | (refine way (fun h9 => ?_) (fun h9 => ?_)) | (refine wayT (fun h9 => ?_) (fun h9 => ?_)) | (refine wayF (fun h9 => ?_) (fun h9 => ?_)))
            · simp -implicitDefEqProofs (maxSteps := 3000000) only [go_sem, reduceCtorEq]
              rw [if_pos (.inr h9)] at hrv
              rw [readVar, if_pos h0, Int.toNat_natCast, hrv]; rfl
            · simp -implicitDefEqProofs (maxSteps := 3000000) only [go_sem, reduceCtorEq, e5]
              rw [if_neg (fun h => h.elim (fun h => by omega) (fun h => h h9))] at hrv
              rw [readVar, if_pos h0, Int.toNat_natCast, hrv]
              have g2 : t.length - (t.length - (a + k + 1)) = a + (k + 1) := by omega
              simp only [Option.map_some, rvV, List.length_drop, g2]
        · simp -implicitDefEqProofs (maxSteps := 3000000) only [go_sem, reduceCtorEq]
          refine next_data (k + 1) (by rw [e5]) ⟨by omega, by omega, ?_⟩ (by omega)
          rw [take_snoc hd]
          intro y hy
          rcases List.mem_append.1 hy with hy | hy
          · exact h3 y hy
          · simp at hy; subst hy; omega
      · simp -implicitDefEqProofs (maxSteps := 3000000) only [go_sem, reduceCtorEq]
        have hk : k = 5 := by omega
        have : rv (t.drop a) = none := by rw [hsplit]; exact rv_long h3 (by omega)
        rw [readVar, if_pos h0, Int.toNat_natCast, this]; rfl
    · simp -implicitDefEqProofs (maxSteps := 3000000) only [go_sem, reduceCtorEq]
      have he : t.drop (a + k) = [] := List.drop_eq_nil_of_le (by omega)
      rw [he, List.append_nil] at hsplit
      have : rv (t.drop a) = none := by rw [hsplit]; exact rv_short h3 (by omega)
      rw [readVar, if_pos h0, Int.toNat_natCast, this]; rfl
theorem ks_ReadVar {h : Heap} {tb : Nat} {K : OK} {args : List V} {ls : List Nat} (t : List UInt8) (a : Int) (ht : t.length ≤ 4611686018427387904) (hg : toDs h args = some ([.str t, .int .i64 a], ls)) (hfl : FlatV (rvV (readVar t a)) ∧ FlatH ([]))
    (hk : K (renV (bk tb ([])) (rvV (readVar t a))) (updN tb ([]) ([]))) : callVC Go.Proofs.Try.prog h tb 142 args K :=
  call_free hg (cs_ReadVar t a ht) rfl (.inr hfl) hk

def rsV : Option (List UInt8 × Nat) → V
  | none => .tup [.d (.str []), .d (.int .i64 0), .d (.bool false)]
  | some (s, a) => .tup [.d (.str s), .d (.int .i64 a), .d (.bool true)]
theorem flat_rsV {o : Option (List UInt8 × Nat)} : FlatV (rsV o) := by rcases o with _ | ⟨n, a⟩ <;> exact flat_of rfl

@[go_sem] def hr114 : Hints
  | 0 => [0, 1] | 1 => [0, 1] | 2 => [0, 7, 8, 9] | 3 => [] | 4 => [0, 7, 8] | _ => []
@[go_sem] def hl114 : Hints := fun _ => []
attribute [go_sem] Go.Proofs.Try.results114
set_option maxRecDepth 100000 in
set_option maxHeartbeats 2000000 in
theorem ci_ReadShort (t : List UInt8) (a : Int) (ht : t.length ≤ 4611686018427387904) : CallOK Go.Proofs.Try.prog 114 [.d (.str t), .d (.int .i64 a)] [] [.dead, .dead] (rsV (readShort t a)) [] := by
  refine call_of tysZOK mixedZ Go.Proofs.Try.func114 (by kernel_rfl) rfl (np := [false, false]) (by kernel_rfl) hr114 hl114 (by simp [Go.Proofs.Try.ntmps114]) ?_
  simp -implicitDefEqProofs (maxSteps := 3000000) only [go_sem, reduceCtorEq]
  refine ki_ReadVar t a ht rfl ⟨flat_rvV, flatH_nil⟩ ?_
  rw [readShort]
  cases hv : readVar t a with
  | none => 
    simp only [rvV]
    simp -implicitDefEqProofs (maxSteps := 3000000) only [go_sem, reduceCtorEq]
    rfl
  | some p =>
    obtain ⟨n, b⟩ := p
    obtain ⟨g1, g2, g3, g4⟩ := readVar_lt hv
    have e1 : IntKind.i64.wrap ((t.length : Int) - (b : Int)) = ((t.length - b : Nat) : Int) := by rw [wrap_int (by omega) (by omega)]; omega
    have e2 : IntKind.i64.wrap ((b : Int) + (n : Int)) = ((b + n : Nat) : Int) := by rw [wrap_int (by omega) (by omega)]; omega
    simp only [rvV]
    simp -implicitDefEqProofs (maxSteps := 3000000) only [go_sem, reduceCtorEq, e1, e2]
    (first | (refine way_dec (fun h1 => ?_) (fun h1 => ?_)) | (refine way_ndec (fun h1 => ?_) (fun h1 => ?_)) | (refine wayT_dec (fun h1 => ?_) (fun h1 => ?_)) | (refine wayF_dec (fun h1 => ?_) (fun h1 => ?_)) | (refine wayT_ndec (fun h1 => ?_) (fun h1 => ?_)) | (refine wayF_ndec (fun h1 => ?_) (fun h1 => ?_)) | (refine way_not (fun h1 => ?_) (fun h1 => ?_)) | (refine way (fun h1 => ?_) (fun h1 => ?_)) | (refine wayT (fun h1 => ?_) (fun h1 => ?_)) | (refine wayF (fun h1 => ?_) (fun h1 => ?_)))
    · simp -implicitDefEqProofs (maxSteps := 3000000) only [go_sem, reduceCtorEq, e1, e2]
      (first | (refine way_dec (fun h2 => ?_) (fun h2 => ?_)) | (refine way_ndec (fun h2 => ?_) (fun h2 => ?_)) | (refine wayT_dec (fun h2 => ?_) (fun h2 => ?_)) | (refine wayF_dec (fun h2 => ?_) (fun h2 => ?_)) | (refine wayT_ndec (fun h2 => ?_) (fun h2 => ?_)) | (refine wayF_ndec (fun h2 => ?_) (fun h2 => ?_)) | (refine way_not (fun h2 => ?_) (fun h2 => ?_)) | (refine way (fun h2 => ?_) (fun h2 => ?_)) | (refine wayT (fun h2 => ?_) (fun h2 => ?_)) | (refine wayF (fun h2 => ?_) (fun h2 => ?_)))
      · simp -implicitDefEqProofs (maxSteps := 3000000) only [go_sem, reduceCtorEq, e1, e2]
        rw [if_neg (by omega)]; rfl
      · simp -implicitDefEqProofs (maxSteps := 3000000) only [go_sem, reduceCtorEq, e1, e2]
        repeat ((first | refine req (by first | omega | assumption | exact commP_of (by kernel_rfl) | (simp only [LEN, List.length_append, List.length_cons, List.length_nil]; omega) | (simp [D.one]; omega) | (simp [D.one]; done)) ?_); simp -implicitDefEqProofs (maxSteps := 3000000) only [go_sem, reduceCtorEq, e1, e2])
        rw [if_pos (by omega)]; rfl
    · simp -implicitDefEqProofs (maxSteps := 3000000) only [go_sem, reduceCtorEq, e1, e2]
      rw [if_neg (by omega)]; rfl
theorem ki_ReadShort {h : Heap} {tb : Nat} {K : OK} {args : List V} {ls : List Nat} (t : List UInt8) (a : Int) (ht : t.length ≤ 4611686018427387904) (hg : toDs h args = some ([.str t, .int .i64 a], ls)) (hfl : FlatV (rsV (readShort t a)) ∧ FlatH ([]))
    (hk : K (renV (bk tb ([])) (rsV (readShort t a))) (updN tb ([]) ([]))) : callVC Go.Proofs.Try.prog h tb 114 args K :=
  call_free hg (ci_ReadShort t a ht) rfl (.inr hfl) hk
@[go_sem] def hr143 : Hints
  | 0 => [0, 1] | 1 => [0, 1] | 2 => [0, 7, 8, 9] | 3 => [] | 4 => [0, 7, 8] | _ => []
@[go_sem] def hl143 : Hints := fun _ => []
attribute [go_sem] Go.Proofs.Try.results143
set_option maxRecDepth 100000 in
set_option maxHeartbeats 2000000 in
theorem cs_ReadShort (t : List UInt8) (a : Int) (ht : t.length ≤ 4611686018427387904) : CallOK Go.Proofs.Try.prog 143 [.d (.str t), .d (.int .i64 a)] [] [.dead, .dead] (rsV (readShort t a)) [] := by
  refine call_of tysZOK mixedZ Go.Proofs.Try.func143 (by kernel_rfl) rfl (np := [false, false]) (by kernel_rfl) hr143 hl143 (by simp [Go.Proofs.Try.ntmps143]) ?_
  simp -implicitDefEqProofs (maxSteps := 3000000) only [go_sem, reduceCtorEq]
  refine ks_ReadVar t a ht rfl ⟨flat_rvV, flatH_nil⟩ ?_
  rw [readShort]
  cases hv : readVar t a with
  | none => 
    simp only [rvV]
    simp -implicitDefEqProofs (maxSteps := 3000000) only [go_sem, reduceCtorEq]
    rfl
  | some p =>
    obtain ⟨n, b⟩ := p
    obtain ⟨g1, g2, g3, g4⟩ := readVar_lt hv
    have e1 : IntKind.i64.wrap ((t.length : Int) - (b : Int)) = ((t.length - b : Nat) : Int) := by rw [wrap_int (by omega) (by omega)]; omega
    have e2 : IntKind.i64.wrap ((b : Int) + (n : Int)) = ((b + n : Nat) : Int) := by rw [wrap_int (by omega) (by omega)]; omega
    simp only [rvV]
    simp -implicitDefEqProofs (maxSteps := 3000000) only [go_sem, reduceCtorEq, e1, e2]
    (first | (refine way_dec (fun h1 => ?_) (fun h1 => ?_)) | (refine way_ndec (fun h1 => ?_) (fun h1 => ?_)) | (refine wayT_dec (fun h1 => ?_) (fun h1 => ?_)) | (refine wayF_dec (fun h1 => ?_) (fun h1 => ?_)) | (refine wayT_ndec (fun h1 => ?_) (fun h1 => ?_)) | (refine wayF_ndec (fun h1 => ?_) (fun h1 => ?_)) | (refine way_not (fun h1 => ?_) (fun h1 => ?_)) | (refine way (fun h1 => ?_) (fun h1 => ?_)) | (refine wayT (fun h1 => ?_) (fun h1 => ?_)) | (refine wayF (fun h1 => ?_) (fun h1 => ?_)))
    · simp -implicitDefEqProofs (maxSteps := 3000000) only [go_sem, reduceCtorEq, e1, e2]
      (first | (refine way_dec (fun h2 => ?_) (fun h2 => ?_)) | (refine way_ndec (fun h2 => ?_) (fun h2 => ?_)) | (refine wayT_dec (fun h2 => ?_) (fun h2 => ?_)) | (refine wayF_dec (fun h2 => ?_) (fun h2 => ?_)) | (refine wayT_ndec (fun h2 => ?_) (fun h2 => ?_)) | (refine wayF_ndec (fun h2 => ?_) (fun h2 => ?_)) | (refine way_not (fun h2 => ?_) (fun h2 => ?_)) | (refine way (fun h2 => ?_) (fun h2 => ?_)) | (refine wayT (fun h2 => ?_) (fun h2 => ?_)) | (refine wayF (fun h2 => ?_) (fun h2 => ?_)))
      · simp -implicitDefEqProofs (maxSteps := 3000000) only [go_sem, reduceCtorEq, e1, e2]
        rw [if_neg (by omega)]; rfl
      · simp -implicitDefEqProofs (maxSteps := 3000000) only [go_sem, reduceCtorEq, e1, e2]
        repeat ((first | refine req (by first | omega | assumption | exact commP_of (by kernel_rfl) | (simp only [LEN, List.length_append, List.length_cons, List.length_nil]; omega) | (simp [D.one]; omega) | (simp [D.one]; done)) ?_); simp -implicitDefEqProofs (maxSteps := 3000000) only [go_sem, reduceCtorEq, e1, e2])
        rw [if_pos (by omega)]; rfl
    · simp -implicitDefEqProofs (maxSteps := 3000000) only [go_sem, reduceCtorEq, e1, e2]
      rw [if_neg (by omega)]; rfl
theorem ks_ReadShort {h : Heap} {tb : Nat} {K : OK} {args : List V} {ls : List Nat} (t : List UInt8) (a : Int) (ht : t.length ≤ 4611686018427387904) (hg : toDs h args = some ([.str t, .int .i64 a], ls)) (hfl : FlatV (rsV (readShort t a)) ∧ FlatH ([]))
    (hk : K (renV (bk tb ([])) (rsV (readShort t a))) (updN tb ([]) ([]))) : callVC Go.Proofs.Try.prog h tb 143 args K :=
  call_free hg (cs_ReadShort t a ht) rfl (.inr hfl) hk

/-! sums -/
theorem u32_byte (x : UInt8) : IntKind.u32.wrap ((x.toNat : Nat) : Int) = (x.toNat : Nat) := wrap32 (by have := byte_lt x; omega)
@[go_sem] def hr139 : Hints
  | 0 => [0, 1] | 1 => [0, 1] | 2 => [0, 1, 8, 9] | 3 => [0, 1, 8, 9] | 4 => [0, 1, 5, 8, 9] | 5 => [0, 1, 8, 9] | 6 => [0, 1, 8, 9, 18] | 7 => [0, 1, 8, 9, 18] | 8 => [0, 1, 6, 8, 9, 18] | 9 => [0, 1, 6, 8, 9, 18] | 10 => [0, 1, 8, 9, 18] | 11 => [0, 1, 8, 9, 18] | 12 => [0, 1, 8, 9] | 13 => [0] | _ => []
@[go_sem] def hl139 : Hints
  | 2 => [0, 1, 8, 9] | 6 => [0, 1, 8, 9, 18] | _ => []
attribute [go_sem] Go.Proofs.Try.results139
set_option maxRecDepth 100000 in
set_option maxHeartbeats 2000000 in
theorem ci_SumMore (s : Nat) (t : List UInt8) (hs : s < 4294967296) (ht : t.length ≤ LEN) : CallOK Go.Proofs.Try.prog 139 [.d (.int .u32 s), .d (.str t)] [] [.dead, .dead] (.d (.int .u32 (sumMore s t : Nat))) [] := by
  refine call_of tysZOK mixedZ Go.Proofs.Try.func139 (by kernel_rfl) rfl (np := [false, false]) (by kernel_rfl) hr139 hl139 (by simp [Go.Proofs.Try.ntmps139]) ?_
  simp -implicitDefEqProofs (maxSteps := 3000000) only [go_sem, reduceCtorEq]
  refine loop_data (α := Nat) (fun i => ⟨[(0, .d (.int .u32 (sumMore s (t.take i) : Nat))), (1, .d (.str t)), (8, .d (.int .i64 t.length)), (9, .d (.int .i64 i))], []⟩)
    (fun i => i ≤ t.length) (fun i => t.length - i) 0 rfl (Nat.zero_le _) ?_
  rintro i h1
  simp -implicitDefEqProofs (maxSteps := 3000000) only [go_sem, reduceCtorEq]
  (first | (refine way_dec (fun h2 => ?_) (fun h2 => ?_)) | (refine way_ndec (fun h2 => ?_) (fun h2 => ?_)) | (refine wayT_dec (fun h2 => ?_) (fun h2 => ?_)) | (refine wayF_dec (fun h2 => ?_) (fun h2 => ?_)) | (refine wayT_ndec (fun h2 => ?_) (fun h2 => ?_)) | (refine wayF_ndec (fun h2 => ?_) (fun h2 => ?_)) | (refine way_not (fun h2 => ?_) (fun h2 => ?_)) | (refine way (fun h2 => ?_) (fun h2 => ?_)) | (refine wayT (fun h2 => ?_) (fun h2 => ?_)) | (refine wayF (fun h2 => ?_) (fun h2 => ?_)))
  · obtain ⟨x, hx⟩ := some_at h2
    have hl := sumMore_lt (t := t.take i) hs
    have hb := byte_lt x
    have e1 := xor32 hl (b := x.toNat) (by omega)
    have hx1 : sumMore s (t.take i) ^^^ x.toNat < 4294967296 := Nat.xor_lt_two_pow (n := 32) hl (by omega)
    simp -implicitDefEqProofs (maxSteps := 3000000) only [go_sem, reduceCtorEq, getD_some hx, u32_byte, e1]
    repeat ((first | refine req (by first | omega | assumption | exact commP_of (by kernel_rfl) | (simp only [LEN, List.length_append, List.length_cons, List.length_nil]; omega) | (simp [D.one]; omega) | (simp [D.one]; done)) ?_); simp -implicitDefEqProofs (maxSteps := 3000000) only [go_sem, reduceCtorEq, getD_some hx, u32_byte, e1])
    refine loop_data (α := Nat × Nat) (fun y => ⟨[(0, .d (.int .u32 y.2)), (1, .d (.str t)), (8, .d (.int .i64 t.length)), (9, .d (.int .i64 i)), (18, .d (.int .i64 y.1))], []⟩)
      (fun y => y.1 ≤ 8 ∧ y.2 < 4294967296 ∧ crcBits (8 - y.1) y.2 = crcByte (sumMore s (t.take i)) x.toNat) (fun y => 8 - y.1) (0, _) rfl ⟨by omega, hx1, rfl⟩ ?_
    rintro ⟨k, z⟩ ⟨g1, g2, g3⟩
    simp only at g1 g2 g3
    simp -implicitDefEqProofs (maxSteps := 3000000) only [go_sem, reduceCtorEq]
    have c1 := and32 g2 (b := 1) (by omega)
    rw [and1n] at c1
    have c2 := shr32 (a := z) (k := 1) (by omega)
    have c3 := xor32 (a := z / 2 ^ 1) (b := 3558460437) (by omega) (by omega)
    simp only [Int.cast_ofNat_Int, Int.natCast_one] at c1 c2 c3
    (first | (refine way_dec (fun h3 => ?_) (fun h3 => ?_)) | (refine way_ndec (fun h3 => ?_) (fun h3 => ?_)) | (refine wayT_dec (fun h3 => ?_) (fun h3 => ?_)) | (refine wayF_dec (fun h3 => ?_) (fun h3 => ?_)) | (refine wayT_ndec (fun h3 => ?_) (fun h3 => ?_)) | (refine wayF_ndec (fun h3 => ?_) (fun h3 => ?_)) | (refine way_not (fun h3 => ?_) (fun h3 => ?_)) | (refine way (fun h3 => ?_) (fun h3 => ?_)) | (refine wayT (fun h3 => ?_) (fun h3 => ?_)) | (refine wayF (fun h3 => ?_) (fun h3 => ?_)))
    · have hk : 8 - k = (8 - (k + 1)) + 1 := by omega
      rw [hk, crcBits] at g3
      simp -implicitDefEqProofs (maxSteps := 3000000) only [go_sem, reduceCtorEq, c1, c2, c3]
      repeat ((first | refine req (by first | omega | assumption | exact commP_of (by kernel_rfl) | (simp only [LEN, List.length_append, List.length_cons, List.length_nil]; omega) | (simp [D.one]; omega) | (simp [D.one]; done)) ?_); simp -implicitDefEqProofs (maxSteps := 3000000) only [go_sem, reduceCtorEq, c1, c2, c3])
      have hz := crcBit_lt g2
      (first | (refine way_dec (fun h4 => ?_) (fun h4 => ?_)) | (refine way_ndec (fun h4 => ?_) (fun h4 => ?_)) | (refine wayT_dec (fun h4 => ?_) (fun h4 => ?_)) | (refine wayF_dec (fun h4 => ?_) (fun h4 => ?_)) | (refine wayT_ndec (fun h4 => ?_) (fun h4 => ?_)) | (refine wayF_ndec (fun h4 => ?_) (fun h4 => ?_)) | (refine way_not (fun h4 => ?_) (fun h4 => ?_)) | (refine way (fun h4 => ?_) (fun h4 => ?_)) | (refine wayT (fun h4 => ?_) (fun h4 => ?_)) | (refine wayF (fun h4 => ?_) (fun h4 => ?_)))
      · simp -implicitDefEqProofs (maxSteps := 3000000) only [go_sem, reduceCtorEq, c3]
        rw [wrap_succ (by simp only [LEN]; omega)]
        refine next_data (k + 1, crcBit z) ?_ ⟨by simp only; omega, hz, g3⟩ (by simp only; omega)
        rw [crcBit, if_pos (by omega)]
      · simp -implicitDefEqProofs (maxSteps := 3000000) only [go_sem, reduceCtorEq]
        rw [wrap_succ (by simp only [LEN]; omega)]
        refine next_data (k + 1, crcBit z) ?_ ⟨by simp only; omega, hz, g3⟩ (by simp only; omega)
        rw [crcBit, if_neg (by omega)]
    · simp -implicitDefEqProofs (maxSteps := 3000000) only [go_sem, reduceCtorEq]
      obtain rfl : k = 8 := by omega
      rw [wrap_succ (by omega)]
      refine next_data (i + 1) ?_ (by omega) (by omega)
      rw [sumMore_snoc hx, ← g3]
      rfl
  · simp -implicitDefEqProofs (maxSteps := 3000000) only [go_sem, reduceCtorEq]
    rw [List.take_of_length_le (by omega)]
theorem ki_SumMore {h : Heap} {tb : Nat} {K : OK} {args : List V} {ls : List Nat} (s : Nat) (t : List UInt8) (hs : s < 4294967296) (ht : t.length ≤ LEN) (hg : toDs h args = some ([.int .u32 s, .str t], ls))
    (hk : K (renV (bk tb ([])) (.d (.int .u32 (sumMore s t : Nat)))) (updN tb ([]) ([]))) : callVC Go.Proofs.Try.prog h tb 139 args K :=
  call_free hg (ci_SumMore s t hs ht) rfl (.inr ⟨flat_of rfl, flatHB_of rfl⟩) hk
@[go_sem] def hr124 : Hints
  | 0 => [0, 1] | 1 => [0, 1] | 2 => [0, 1, 5] | 3 => [0, 1, 5] | 4 => [0, 1, 5] | 5 => [0, 1, 5] | 6 => [0, 1, 5, 6] | 7 => [0, 1, 5, 6] | 8 => [0, 1, 5, 6] | 9 => [0, 1, 5, 6, 7] | 10 => [0, 1, 5, 6, 7] | 11 => [0, 1, 5, 6] | 12 => [0] | _ => []
@[go_sem] def hl124 : Hints
  | 2 => [0, 1, 5] | 6 => [0, 1, 5, 6] | _ => []
attribute [go_sem] Go.Proofs.Try.results124
set_option maxRecDepth 100000 in
set_option maxHeartbeats 2000000 in
theorem cs_SumMore (s : Nat) (t : List UInt8) (hs : s < 4294967296) (ht : t.length ≤ LEN) : CallOK Go.Proofs.Try.prog 124 [.d (.int .u32 s), .d (.str t)] [] [.dead, .dead] (.d (.int .u32 (sumMore s t : Nat))) [] := by
  refine call_of tysZOK mixedZ Go.Proofs.Try.func124 (by kernel_rfl) rfl (np := [false, false]) (by kernel_rfl) hr124 hl124 (by simp [Go.Proofs.Try.ntmps124]) ?_
  simp -implicitDefEqProofs (maxSteps := 3000000) only [go_sem, reduceCtorEq]
  refine loop_data (α := Nat) (fun i => ⟨[(0, .d (.int .u32 (sumMore s (t.take i) : Nat))), (1, .d (.str t)), (5, .d (.int .i64 i))], []⟩)
    (fun i => i ≤ t.length) (fun i => t.length - i) 0 rfl (Nat.zero_le _) ?_
  rintro i h1
  simp -implicitDefEqProofs (maxSteps := 3000000) only [go_sem, reduceCtorEq]
  (first | (refine way_dec (fun h2 => ?_) (fun h2 => ?_)) | (refine way_ndec (fun h2 => ?_) (fun h2 => ?_)) | (refine wayT_dec (fun h2 => ?_) (fun h2 => ?_)) | (refine wayF_dec (fun h2 => ?_) (fun h2 => ?_)) | (refine wayT_ndec (fun h2 => ?_) (fun h2 => ?_)) | (refine wayF_ndec (fun h2 => ?_) (fun h2 => ?_)) | (refine way_not (fun h2 => ?_) (fun h2 => ?_)) | (refine way (fun h2 => ?_) (fun h2 => ?_)) | (refine wayT (fun h2 => ?_) (fun h2 => ?_)) | (refine wayF (fun h2 => ?_) (fun h2 => ?_)))
  · obtain ⟨x, hx⟩ := some_at h2
    have hl := sumMore_lt (t := t.take i) hs
    have hb := byte_lt x
    have e1 := xor32 hl (b := x.toNat) (by omega)
    have hx1 : sumMore s (t.take i) ^^^ x.toNat < 4294967296 := Nat.xor_lt_two_pow (n := 32) hl (by omega)
    simp -implicitDefEqProofs (maxSteps := 3000000) only [go_sem, reduceCtorEq, getD_some hx, u32_byte, e1]
    repeat ((first | refine req (by first | omega | assumption | exact commP_of (by kernel_rfl) | (simp only [LEN, List.length_append, List.length_cons, List.length_nil]; omega) | (simp [D.one]; omega) | (simp [D.one]; done)) ?_); simp -implicitDefEqProofs (maxSteps := 3000000) only [go_sem, reduceCtorEq, getD_some hx, u32_byte, e1])
    refine loop_data (α := Nat × Nat) (fun y => ⟨[(0, .d (.int .u32 y.2)), (1, .d (.str t)), (5, .d (.int .i64 i)), (6, .d (.int .i64 y.1))], []⟩)
      (fun y => y.1 ≤ 8 ∧ y.2 < 4294967296 ∧ crcBits (8 - y.1) y.2 = crcByte (sumMore s (t.take i)) x.toNat) (fun y => 8 - y.1) (0, _) rfl ⟨by omega, hx1, rfl⟩ ?_
    rintro ⟨k, z⟩ ⟨g1, g2, g3⟩
    simp only at g1 g2 g3
    simp -implicitDefEqProofs (maxSteps := 3000000) only [go_sem, reduceCtorEq]
    have c1 : (z : Int).tmod 2 = ((z % 2 : Nat) : Int) := by rw [Int.tmod_eq_emod_of_nonneg (by omega)]; omega
    have c2 : IntKind.u32.wrap ((z : Int).tdiv 2) = ((z / 2 : Nat) : Int) := by
      have : (z : Int).tdiv 2 = ((z / 2 : Nat) : Int) := by rw [Int.tdiv_eq_ediv_of_nonneg (by omega)]; omega
      rw [this]; exact wrap32 (by omega)
    have c3 := xor32 (a := z / 2) (b := 3558460437) (by omega) (by omega)
    simp only [Int.cast_ofNat_Int, Int.natCast_one] at c3
    (first | (refine way_dec (fun h3 => ?_) (fun h3 => ?_)) | (refine way_ndec (fun h3 => ?_) (fun h3 => ?_)) | (refine wayT_dec (fun h3 => ?_) (fun h3 => ?_)) | (refine wayF_dec (fun h3 => ?_) (fun h3 => ?_)) | (refine wayT_ndec (fun h3 => ?_) (fun h3 => ?_)) | (refine wayF_ndec (fun h3 => ?_) (fun h3 => ?_)) | (refine way_not (fun h3 => ?_) (fun h3 => ?_)) | (refine way (fun h3 => ?_) (fun h3 => ?_)) | (refine wayT (fun h3 => ?_) (fun h3 => ?_)) | (refine wayF (fun h3 => ?_) (fun h3 => ?_)))
    · have hk : 8 - k = (8 - (k + 1)) + 1 := by omega
      rw [hk, crcBits] at g3
      simp -implicitDefEqProofs (maxSteps := 3000000) only [go_sem, reduceCtorEq, c1, c2, c3]
      repeat ((first | refine req (by first | omega | assumption | exact commP_of (by kernel_rfl) | (simp only [LEN, List.length_append, List.length_cons, List.length_nil]; omega) | (simp [D.one]; omega) | (simp [D.one]; done)) ?_); simp -implicitDefEqProofs (maxSteps := 3000000) only [go_sem, reduceCtorEq, c1, c2, c3])
      have hz := crcBit_lt g2
      (first | (refine way_dec (fun h4 => ?_) (fun h4 => ?_)) | (refine way_ndec (fun h4 => ?_) (fun h4 => ?_)) | (refine wayT_dec (fun h4 => ?_) (fun h4 => ?_)) | (refine wayF_dec (fun h4 => ?_) (fun h4 => ?_)) | (refine wayT_ndec (fun h4 => ?_) (fun h4 => ?_)) | (refine wayF_ndec (fun h4 => ?_) (fun h4 => ?_)) | (refine way_not (fun h4 => ?_) (fun h4 => ?_)) | (refine way (fun h4 => ?_) (fun h4 => ?_)) | (refine wayT (fun h4 => ?_) (fun h4 => ?_)) | (refine wayF (fun h4 => ?_) (fun h4 => ?_)))
      · simp -implicitDefEqProofs (maxSteps := 3000000) only [go_sem, reduceCtorEq, c3]
        rw [wrap_succ (by simp only [LEN]; omega)]
        refine next_data (k + 1, crcBit z) ?_ ⟨by simp only; omega, hz, g3⟩ (by simp only; omega)
        rw [crcBit, if_pos (by omega)]
      · simp -implicitDefEqProofs (maxSteps := 3000000) only [go_sem, reduceCtorEq]
        rw [wrap_succ (by simp only [LEN]; omega)]
        refine next_data (k + 1, crcBit z) ?_ ⟨by simp only; omega, hz, g3⟩ (by simp only; omega)
        rw [crcBit, if_neg (by omega)]
    · simp -implicitDefEqProofs (maxSteps := 3000000) only [go_sem, reduceCtorEq]
      obtain rfl : k = 8 := by omega
      rw [wrap_succ (by omega)]
      refine next_data (i + 1) ?_ (by omega) (by omega)
      rw [sumMore_snoc hx, ← g3]
      rfl
  · simp -implicitDefEqProofs (maxSteps := 3000000) only [go_sem, reduceCtorEq]
    rw [List.take_of_length_le (by omega)]
theorem ks_SumMore {h : Heap} {tb : Nat} {K : OK} {args : List V} {ls : List Nat} (s : Nat) (t : List UInt8) (hs : s < 4294967296) (ht : t.length ≤ LEN) (hg : toDs h args = some ([.int .u32 s, .str t], ls))
    (hk : K (renV (bk tb ([])) (.d (.int .u32 (sumMore s t : Nat)))) (updN tb ([]) ([]))) : callVC Go.Proofs.Try.prog h tb 124 args K :=
  call_free hg (cs_SumMore s t hs ht) rfl (.inr ⟨flat_of rfl, flatHB_of rfl⟩) hk
@[go_sem] def hr129 : Hints
  | 0 => [0] | 1 => [0] | _ => []
@[go_sem] def hl129 : Hints := fun _ => []
attribute [go_sem] Go.Proofs.Try.results129
set_option maxRecDepth 100000 in
set_option maxHeartbeats 2000000 in
theorem ci_SumOf (t : List UInt8) (ht : t.length ≤ LEN) : CallOK Go.Proofs.Try.prog 129 [.d (.str t)] [] [.dead] (.d (.int .u32 (sumOf t : Nat))) [] := by
  refine call_of tysZOK mixedZ Go.Proofs.Try.func129 (by kernel_rfl) rfl (np := [false]) (by kernel_rfl) hr129 hl129 (by simp [Go.Proofs.Try.ntmps129]) ?_
  simp -implicitDefEqProofs (maxSteps := 3000000) only [go_sem, reduceCtorEq]
  refine ki_SumMore 4294967295 t (by omega) ht rfl ?_
  simp -implicitDefEqProofs (maxSteps := 3000000) only [go_sem, reduceCtorEq]
  rfl
theorem ki_SumOf {h : Heap} {tb : Nat} {K : OK} {args : List V} {ls : List Nat} (t : List UInt8) (ht : t.length ≤ LEN) (hg : toDs h args = some ([.str t], ls))
    (hk : K (renV (bk tb ([])) (.d (.int .u32 (sumOf t : Nat)))) (updN tb ([]) ([]))) : callVC Go.Proofs.Try.prog h tb 129 args K :=
  call_free hg (ci_SumOf t ht) rfl (.inr ⟨flat_of rfl, flatHB_of rfl⟩) hk
@[go_sem] def hr105 : Hints
  | 0 => [0] | 1 => [0] | _ => []
@[go_sem] def hl105 : Hints := fun _ => []
attribute [go_sem] Go.Proofs.Try.results105
set_option maxRecDepth 100000 in
set_option maxHeartbeats 2000000 in
theorem cs_SumOf (t : List UInt8) (ht : t.length ≤ LEN) : CallOK Go.Proofs.Try.prog 105 [.d (.str t)] [] [.dead] (.d (.int .u32 (sumOf t : Nat))) [] := by
  refine call_of tysZOK mixedZ Go.Proofs.Try.func105 (by kernel_rfl) rfl (np := [false]) (by kernel_rfl) hr105 hl105 (by simp [Go.Proofs.Try.ntmps105]) ?_
  simp -implicitDefEqProofs (maxSteps := 3000000) only [go_sem, reduceCtorEq]
  refine ks_SumMore 4294967295 t (by omega) ht rfl ?_
  simp -implicitDefEqProofs (maxSteps := 3000000) only [go_sem, reduceCtorEq]
  rfl
theorem ks_SumOf {h : Heap} {tb : Nat} {K : OK} {args : List V} {ls : List Nat} (t : List UInt8) (ht : t.length ≤ LEN) (hg : toDs h args = some ([.str t], ls))
    (hk : K (renV (bk tb ([])) (.d (.int .u32 (sumOf t : Nat)))) (updN tb ([]) ([]))) : callVC Go.Proofs.Try.prog h tb 105 args K :=
  call_free hg (cs_SumOf t ht) rfl (.inr ⟨flat_of rfl, flatHB_of rfl⟩) hk
theorem four_cells {n : Nat} (h : n < 4294967296) : IntKind.u8.wrap (bShr .u32 (n : Int) 24) = ((UInt8.ofNat (n / 16777216)).toNat : Nat) ∧ IntKind.u8.wrap (bShr .u32 (n : Int) 16) = ((UInt8.ofNat (n / 65536)).toNat : Nat) ∧
    IntKind.u8.wrap (bShr .u32 (n : Int) 8) = ((UInt8.ofNat (n / 256)).toNat : Nat) ∧ IntKind.u8.wrap (n : Int) = ((UInt8.ofNat n).toNat : Nat) := by
  have e1 := shr32 (a := n) (k := 24) (by omega)
  have e2 := shr32 (a := n) (k := 16) (by omega)
  have e3 := shr32 (a := n) (k := 8) (by omega)
  simp only [Int.cast_ofNat_Int] at e1 e2 e3
  rw [e1, e2, e3]
  refine ⟨?_, ?_, ?_, ?_⟩ <;> rw [wrap8] <;> simp
theorem four_lit {n : Nat} : [[D.int .u8 ((UInt8.ofNat (n / 16777216)).toNat : Nat)], [D.int .u8 ((UInt8.ofNat (n / 65536)).toNat : Nat)], [D.int .u8 ((UInt8.ofNat (n / 256)).toNat : Nat)], [D.int .u8 ((UInt8.ofNat n).toNat : Nat)]] = bys (four n) := rfl
theorem four_all {n : Nat} : (bys (four n)).take 4 = bys (four n) := rfl
@[go_sem] def hr112 : Hints
  | 0 => [0] | 1 => [0] | 2 => [3] | _ => []
@[go_sem] def hl112 : Hints := fun _ => []
attribute [go_sem] Go.Proofs.Try.results112
set_option maxRecDepth 100000 in
set_option maxHeartbeats 2000000 in
theorem ci_seal (t : List UInt8) (ht : t.length ≤ LEN) : CallOK Go.Proofs.Try.prog 112 [.d (.str t)] [] [.dead] (.d (.str (four (sumOf t)))) [] := by
  refine call_of tysZOK mixedZ Go.Proofs.Try.func112 (by kernel_rfl) rfl (np := [false]) (by kernel_rfl) hr112 hl112 (by simp [Go.Proofs.Try.ntmps112]) ?_
  simp -implicitDefEqProofs (maxSteps := 3000000) only [go_sem, reduceCtorEq]
  refine ki_SumOf t ht rfl ?_
  obtain ⟨e1, e2, e3, e4⟩ := four_cells (sumOf_lt (t := t))
  simp -implicitDefEqProofs (maxSteps := 3000000) only [go_sem, reduceCtorEq, e1, e2, e3, e4]
  repeat ((first | refine req (by first | omega | assumption | exact commP_of (by kernel_rfl) | (simp only [LEN, List.length_append, List.length_cons, List.length_nil]; omega) | (simp [D.one]; omega) | (simp [D.one]; done)) ?_); simp -implicitDefEqProofs (maxSteps := 3000000) only [go_sem, reduceCtorEq, e1, e2, e3, e4, four_lit, four_len, four_all, bys_back, bys_str])
theorem ki_seal {h : Heap} {tb : Nat} {K : OK} {args : List V} {ls : List Nat} (t : List UInt8) (ht : t.length ≤ LEN) (hg : toDs h args = some ([.str t], ls))
    (hk : K (renV (bk tb ([])) (.d (.str (four (sumOf t))))) (updN tb ([]) ([]))) : callVC Go.Proofs.Try.prog h tb 112 args K :=
  call_free hg (ci_seal t ht) rfl (.inr ⟨flat_of rfl, flatHB_of rfl⟩) hk
@[go_sem] def hr104 : Hints
  | 0 => [0] | 1 => [0] | _ => []
@[go_sem] def hl104 : Hints := fun _ => []
attribute [go_sem] Go.Proofs.Try.results104
set_option maxRecDepth 100000 in
set_option maxHeartbeats 2000000 in
theorem cs_Four (n : Nat) (hn : n < 4294967296) : CallOK Go.Proofs.Try.prog 104 [.d (.int .u32 n)] [] [.dead] (.d (.str (four n))) [] := by
  refine call_of tysZOK mixedZ Go.Proofs.Try.func104 (by kernel_rfl) rfl (np := [false]) (by kernel_rfl) hr104 hl104 (by simp [Go.Proofs.Try.ntmps104]) ?_
  obtain ⟨e1, e2, e3, e4⟩ := four_cells hn
  simp -implicitDefEqProofs (maxSteps := 3000000) only [go_sem, reduceCtorEq, e1, e2, e3, e4]
  repeat ((first | refine req (by first | omega | assumption | exact commP_of (by kernel_rfl) | (simp only [LEN, List.length_append, List.length_cons, List.length_nil]; omega) | (simp [D.one]; omega) | (simp [D.one]; done)) ?_); simp -implicitDefEqProofs (maxSteps := 3000000) only [go_sem, reduceCtorEq, e1, e2, e3, e4, four_lit, four_len, four_all, bys_back, bys_str])
theorem ks_Four {h : Heap} {tb : Nat} {K : OK} {args : List V} {ls : List Nat} (n : Nat) (hn : n < 4294967296) (hg : toDs h args = some ([.int .u32 n], ls))
    (hk : K (renV (bk tb ([])) (.d (.str (four n)))) (updN tb ([]) ([]))) : callVC Go.Proofs.Try.prog h tb 104 args K :=
  call_free hg (cs_Four n hn) rfl (.inr ⟨flat_of rfl, flatHB_of rfl⟩) hk

def unV : Option (List UInt8) → V
  | none => .tup [.d (.str []), .d (.bool false)]
  | some s => .tup [.d (.str s), .d (.bool true)]
theorem flat_unV {o : Option (List UInt8)} : FlatV (unV o) := by rcases o with _ | s <;> exact flat_of rfl
@[go_sem] def hr94 : Hints
  | 0 => [0] | 1 => [0] | 2 => [0, 4] | 3 => [] | 4 => [0, 4] | _ => []
@[go_sem] def hl94 : Hints := fun _ => []
attribute [go_sem] Go.Proofs.Try.results94
set_option maxRecDepth 100000 in
set_option maxHeartbeats 2000000 in
theorem ci_Unsealed (t : List UInt8) (ht : t.length ≤ 4611686018427387904) : CallOK Go.Proofs.Try.prog 94 [.d (.str t)] [] [.dead] (unV (unsealB t)) [] := by
  refine call_of tysZOK mixedZ Go.Proofs.Try.func94 (by kernel_rfl) rfl (np := [false]) (by kernel_rfl) hr94 hl94 (by simp [Go.Proofs.Try.ntmps94]) ?_
  simp -implicitDefEqProofs (maxSteps := 3000000) only [go_sem, reduceCtorEq]
  have e1 : IntKind.i64.wrap ((t.length : Int) - 4) = (t.length : Int) - 4 := wrap_int (by omega) (by omega)
  rw [e1]
  by_cases h1 : 0 ≤ (t.length : Int) - 4 ∧ (t.length : Int) - 4 ≤ 20000
  · have d1 : decide (0 ≤ (t.length : Int) - 4 ∧ (t.length : Int) - 4 ≤ 20000) = true := decide_eq_true h1
    have e2 : ((t.length : Int) - 4).toNat = t.length - 4 := by omega
    refine ki_in _ _ _ rfl ?_
    simp -implicitDefEqProofs (maxSteps := 3000000) only [go_sem, reduceCtorEq, d1, e2]
    repeat ((first | refine req (by first | omega | assumption | exact commP_of (by kernel_rfl) | (simp only [LEN, List.length_append, List.length_cons, List.length_nil]; omega) | (simp [D.one]; omega) | (simp [D.one]; done)) ?_ | refine ki_seal _ (by simp only [List.length_take, LEN]; omega) rfl ?_); simp -implicitDefEqProofs (maxSteps := 3000000) only [go_sem, reduceCtorEq, d1, e2, List.take_length])
    (first | (refine way_dec (fun h2 => ?_) (fun h2 => ?_)) | (refine way_ndec (fun h2 => ?_) (fun h2 => ?_)) | (refine wayT_dec (fun h2 => ?_) (fun h2 => ?_)) | (refine wayF_dec (fun h2 => ?_) (fun h2 => ?_)) | (refine wayT_ndec (fun h2 => ?_) (fun h2 => ?_)) | (refine wayF_ndec (fun h2 => ?_) (fun h2 => ?_)) | (refine way_not (fun h2 => ?_) (fun h2 => ?_)) | (refine way (fun h2 => ?_) (fun h2 => ?_)) | (refine wayT (fun h2 => ?_) (fun h2 => ?_)) | (refine wayF (fun h2 => ?_) (fun h2 => ?_)))
    · simp -implicitDefEqProofs (maxSteps := 3000000) only [go_sem, reduceCtorEq]
      rw [unsealB, if_neg (fun h => h2 h.2.2)]; rfl
    · simp -implicitDefEqProofs (maxSteps := 3000000) only [go_sem, reduceCtorEq]
      repeat ((first | refine req (by first | omega | assumption | exact commP_of (by kernel_rfl) | (simp only [LEN, List.length_append, List.length_cons, List.length_nil]; omega) | (simp [D.one]; omega) | (simp [D.one]; done)) ?_); simp -implicitDefEqProofs (maxSteps := 3000000) only [go_sem, reduceCtorEq, e2])
      rw [unsealB, if_pos ⟨by omega, by omega, h2⟩]; rfl
  · have d1 : decide (0 ≤ (t.length : Int) - 4 ∧ (t.length : Int) - 4 ≤ 20000) = false := decide_eq_false h1
    refine ki_in _ _ _ rfl ?_
    simp -implicitDefEqProofs (maxSteps := 3000000) only [go_sem, reduceCtorEq, d1]
    repeat ((first | refine req (by first | omega | assumption | exact commP_of (by kernel_rfl) | (simp only [LEN, List.length_append, List.length_cons, List.length_nil]; omega) | (simp [D.one]; omega) | (simp [D.one]; done)) ?_); simp -implicitDefEqProofs (maxSteps := 3000000) only [go_sem, reduceCtorEq, d1])
    rw [unsealB, if_neg (by omega)]; rfl
theorem ki_Unsealed {h : Heap} {tb : Nat} {K : OK} {args : List V} {ls : List Nat} (t : List UInt8) (ht : t.length ≤ 4611686018427387904) (hg : toDs h args = some ([.str t], ls)) (hfl : FlatV (unV (unsealB t)) ∧ FlatH ([]))
    (hk : K (renV (bk tb ([])) (unV (unsealB t))) (updN tb ([]) ([]))) : callVC Go.Proofs.Try.prog h tb 94 args K :=
  call_free hg (ci_Unsealed t ht) rfl (.inr hfl) hk

end Go.Rx

namespace Go.Rx
open Go
attribute [local irreducible] Req Way WayG Sel callVC CallOK
set_option linter.unusedSimpArgs false
set_option linter.unusedVariables false

@[go_sem] def hr140 : Hints
  | 0 => [0, 1] | 1 => [0, 1] | 2 => [0, 1, 7, 8] | 3 => [0, 1, 7, 8] | 4 => [0, 1, 5, 7, 8] | 5 => [5] | 6 => [0, 1, 7, 8] | 7 => [] | _ => []
@[go_sem] def hl140 : Hints
  | 2 => [0, 1, 7, 8] | _ => []
attribute [go_sem] Go.Proofs.Try.results140
set_option maxRecDepth 100000 in
set_option maxHeartbeats 2000000 in
theorem ci_idxStr (l : List (List UInt8)) (f : Nat) (cs : List D) (g : (List UInt8) → Bool) (hl : l.length ≤ LEN) (hf : ∀ p ∈ l, CallOK Go.Proofs.Try.prog f (.d (.str p) :: cs.map .d) [] (.dead :: cs.map fun _ => .dead) (.d (.bool (g p))) []) : CallOK Go.Proofs.Try.prog 140 [.d (.sl (strs l)), .d (.clo f cs)] [] [.dead, .dead] (.d (.int .i64 (idxF g l))) [] := by
  refine call_of tysZOK mixedZ Go.Proofs.Try.func140 (by kernel_rfl) rfl (np := [false, false]) (by kernel_rfl) hr140 hl140 (by simp [Go.Proofs.Try.ntmps140]) ?_
  simp -implicitDefEqProofs (maxSteps := 3000000) only [go_sem, reduceCtorEq]
  refine loop_data (α := Nat) (fun i => ⟨[(0, .d (.sl (strs l))), (1, .d (.clo f cs)), (7, .d (.int .i64 l.length)), (8, .d (.int .i64 i))], []⟩)
    (fun i => i ≤ l.length ∧ ∀ q ∈ l.take i, g q = false) (fun i => l.length - i) 0 rfl ⟨Nat.zero_le _, by simp⟩ ?_
  rintro i ⟨h2, h3⟩
  simp -implicitDefEqProofs (maxSteps := 3000000) only [go_sem, reduceCtorEq]
  (first | (refine way_dec (fun h5 => ?_) (fun h5 => ?_)) | (refine way_ndec (fun h5 => ?_) (fun h5 => ?_)) | (refine wayT_dec (fun h5 => ?_) (fun h5 => ?_)) | (refine wayF_dec (fun h5 => ?_) (fun h5 => ?_)) | (refine wayT_ndec (fun h5 => ?_) (fun h5 => ?_)) | (refine wayF_ndec (fun h5 => ?_) (fun h5 => ?_)) | (refine way_not (fun h5 => ?_) (fun h5 => ?_)) | (refine way (fun h5 => ?_) (fun h5 => ?_)) | (refine wayT (fun h5 => ?_) (fun h5 => ?_)) | (refine wayF (fun h5 => ?_) (fun h5 => ?_)))
  · obtain ⟨p, hp⟩ := some_at h5
    have hmem := List.mem_of_getElem? hp
    simp -implicitDefEqProofs (maxSteps := 3000000) only [go_sem, reduceCtorEq, lget_strs hp]
    repeat ((first | refine req (by first | omega | assumption | exact commP_of (by kernel_rfl) | (simp only [LEN, List.length_append, List.length_cons, List.length_nil]; omega) | (simp [D.one]; omega) | (simp [D.one]; done)) ?_ | refine call_free (xs := (.str p) :: cs) toDs_cons (hf p hmem) rfl (.inr ⟨flat_of rfl, flatH_nil⟩) ?_); simp -implicitDefEqProofs (maxSteps := 3000000) only [go_sem, reduceCtorEq, lget_strs hp, calleeVC.eq_1])
    cases hg : g p
    · simp -implicitDefEqProofs (maxSteps := 3000000) only [go_sem, reduceCtorEq]
      rw [wrap_succ (by omega)]
      refine next_data (i + 1) rfl ⟨by omega, fun q hq => ?_⟩ (by omega)
      rw [take_snoc hp] at hq
      rcases List.mem_append.1 hq with hq | hq
      · exact h3 q hq
      · simp at hq; subst hq; exact hg
    · simp -implicitDefEqProofs (maxSteps := 3000000) only [go_sem, reduceCtorEq]
      rw [idxF_step hp h3 hg]
  · simp -implicitDefEqProofs (maxSteps := 3000000) only [go_sem, reduceCtorEq]
    rw [List.take_of_length_le (by omega)] at h3
    rw [idxF_none h3]
theorem ki_idxStr {h : Heap} {tb : Nat} {K : OK} {args : List V} {ls : List Nat} (l : List (List UInt8)) (f : Nat) (cs : List D) (g : (List UInt8) → Bool) (hl : l.length ≤ LEN) (hf : ∀ p ∈ l, CallOK Go.Proofs.Try.prog f (.d (.str p) :: cs.map .d) [] (.dead :: cs.map fun _ => .dead) (.d (.bool (g p))) []) (hg : toDs h args = some ([.sl (strs l), .clo f cs], ls))
    (hk : K (renV (bk tb ([])) (.d (.int .i64 (idxF g l)))) (updN tb ([]) ([]))) : callVC Go.Proofs.Try.prog h tb 140 args K :=
  call_free hg (ci_idxStr l f cs g hl hf) rfl (.inr ⟨flat_of rfl, flatHB_of rfl⟩) hk
@[go_sem] def hr130 : Hints
  | 0 => [0, 1] | 1 => [0, 1] | _ => []
@[go_sem] def hl130 : Hints := fun _ => []
attribute [go_sem] Go.Proofs.Try.results130
set_option maxRecDepth 100000 in
set_option maxHeartbeats 2000000 in
theorem ci_conStr (l : List (List UInt8)) (f : Nat) (cs : List D) (g : (List UInt8) → Bool) (hl : l.length ≤ LEN) (hf : ∀ p ∈ l, CallOK Go.Proofs.Try.prog f (.d (.str p) :: cs.map .d) [] (.dead :: cs.map fun _ => .dead) (.d (.bool (g p))) []) : CallOK Go.Proofs.Try.prog 130 [.d (.sl (strs l)), .d (.clo f cs)] [] [.dead, .dead] (.d (.bool (l.any g))) [] := by
  refine call_of tysZOK mixedZ Go.Proofs.Try.func130 (by kernel_rfl) rfl (np := [false, false]) (by kernel_rfl) hr130 hl130 (by simp [Go.Proofs.Try.ntmps130]) ?_
  simp -implicitDefEqProofs (maxSteps := 3000000) only [go_sem, reduceCtorEq]
  refine ki_idxStr l f cs g hl hf rfl ?_
  simp -implicitDefEqProofs (maxSteps := 3000000) only [go_sem, reduceCtorEq]
  rw [idxF_any]
theorem ki_conStr {h : Heap} {tb : Nat} {K : OK} {args : List V} {ls : List Nat} (l : List (List UInt8)) (f : Nat) (cs : List D) (g : (List UInt8) → Bool) (hl : l.length ≤ LEN) (hf : ∀ p ∈ l, CallOK Go.Proofs.Try.prog f (.d (.str p) :: cs.map .d) [] (.dead :: cs.map fun _ => .dead) (.d (.bool (g p))) []) (hg : toDs h args = some ([.sl (strs l), .clo f cs], ls))
    (hk : K (renV (bk tb ([])) (.d (.bool (l.any g)))) (updN tb ([]) ([]))) : callVC Go.Proofs.Try.prog h tb 130 args K :=
  call_free hg (ci_conStr l f cs g hl hf) rfl (.inr ⟨flat_of rfl, flatHB_of rfl⟩) hk

@[go_sem] def hr115 : Hints
  | 0 => [0] | 1 => [0] | 2 => [0, 5, 6] | 3 => [0, 5, 6] | 4 => [0, 3, 5, 6] | 5 => [] | 6 => [0, 5, 6] | 7 => [] | _ => []
@[go_sem] def hl115 : Hints
  | 2 => [0, 5, 6] | _ => []
attribute [go_sem] Go.Proofs.Try.results115
set_option maxRecDepth 100000 in
set_option maxHeartbeats 2000000 in
theorem ci_ascending (l : List (List UInt8)) (hl : l.length ≤ LEN) : CallOK Go.Proofs.Try.prog 115 [.d (.sl (strs l))] [] [.dead] (.d (.bool (decide (ascK l)))) [] := by
  refine call_of tysZOK mixedZ Go.Proofs.Try.func115 (by kernel_rfl) rfl (np := [false]) (by kernel_rfl) hr115 hl115 (by simp [Go.Proofs.Try.ntmps115]) ?_
  simp -implicitDefEqProofs (maxSteps := 3000000) only [go_sem, reduceCtorEq]
  refine loop_data (α := Nat) (fun i => ⟨[(0, .d (.sl (strs l))), (5, .d (.int .i64 l.length)), (6, .d (.int .i64 i))], []⟩)
    (fun i => i ≤ l.length ∧ ascK (l.take i)) (fun i => l.length - i) 0 rfl ⟨Nat.zero_le _, by simp [ascK]⟩ ?_
  rintro i ⟨h2, h3⟩
  simp -implicitDefEqProofs (maxSteps := 3000000) only [go_sem, reduceCtorEq]
  (first | (refine way_dec (fun h5 => ?_) (fun h5 => ?_)) | (refine way_ndec (fun h5 => ?_) (fun h5 => ?_)) | (refine wayT_dec (fun h5 => ?_) (fun h5 => ?_)) | (refine wayF_dec (fun h5 => ?_) (fun h5 => ?_)) | (refine wayT_ndec (fun h5 => ?_) (fun h5 => ?_)) | (refine wayF_ndec (fun h5 => ?_) (fun h5 => ?_)) | (refine way_not (fun h5 => ?_) (fun h5 => ?_)) | (refine way (fun h5 => ?_) (fun h5 => ?_)) | (refine wayT (fun h5 => ?_) (fun h5 => ?_)) | (refine wayF (fun h5 => ?_) (fun h5 => ?_)))
  · obtain ⟨p, hp⟩ := some_at h5
    rcases Nat.eq_zero_or_pos i with hi | hi
    · have hg : decide ((0 : Int) < (i : Int)) = false := decide_eq_false (by omega)
      simp -implicitDefEqProofs (maxSteps := 3000000) only [go_sem, reduceCtorEq, hg]
      repeat ((first | refine req (by first | omega | assumption | exact commP_of (by kernel_rfl) | (simp only [LEN, List.length_append, List.length_cons, List.length_nil]; omega) | (simp [D.one]; omega) | (simp [D.one]; done)) ?_); simp -implicitDefEqProofs (maxSteps := 3000000) only [go_sem, reduceCtorEq, hg])
      rw [wrap_succ (by omega)]
      refine next_data (i + 1) rfl ⟨by omega, ?_⟩ (by omega)
      subst hi; rw [take_snoc hp]; simp [ascK]
    · obtain ⟨j, rfl⟩ : ∃ j, i = j + 1 := ⟨i - 1, by omega⟩
      obtain ⟨q, hq⟩ := some_at (l := l) (i := j) (by omega)
      have hg : decide ((0 : Int) < ((j + 1 : Nat) : Int)) = true := decide_eq_true (by omega)
      have hj : IntKind.i64.wrap (((j + 1 : Nat) : Int) - 1) = (j : Int) := by simp only [LEN] at hl; rw [wrap_int (by omega) (by omega)]; omega
      simp -implicitDefEqProofs (maxSteps := 3000000) only [go_sem, reduceCtorEq, hg, hj, lget_strs hp, lget_strs hq]
      repeat ((first | refine req (by first | omega | assumption | exact commP_of (by kernel_rfl) | (simp only [LEN, List.length_append, List.length_cons, List.length_nil]; omega) | (simp [D.one]; omega) | (simp [D.one]; done)) ?_); simp -implicitDefEqProofs (maxSteps := 3000000) only [go_sem, reduceCtorEq, hg, hj, lget_strs hp, lget_strs hq])
      cases hlt : bLess q p
      · simp -implicitDefEqProofs (maxSteps := 3000000) only [go_sem, reduceCtorEq]
        have : ¬ ascK l := fun h => by rw [asc_next h hq hp] at hlt; cases hlt
        simp [this]
      · simp -implicitDefEqProofs (maxSteps := 3000000) only [go_sem, reduceCtorEq]
        rw [wrap_succ (by omega)]
        exact next_data (j + 1 + 1) rfl ⟨by omega, ascK_snoc h3 hq hp hlt⟩ (by omega)
  · simp -implicitDefEqProofs (maxSteps := 3000000) only [go_sem, reduceCtorEq]
    rw [List.take_of_length_le (by omega)] at h3
    simp [h3]
theorem ki_ascending {h : Heap} {tb : Nat} {K : OK} {args : List V} {ls : List Nat} (l : List (List UInt8)) (hl : l.length ≤ LEN) (hg : toDs h args = some ([.sl (strs l)], ls))
    (hk : K (renV (bk tb ([])) (.d (.bool (decide (ascK l))))) (updN tb ([]) ([]))) : callVC Go.Proofs.Try.prog h tb 115 args K :=
  call_free hg (ci_ascending l hl) rfl (.inr ⟨flat_of rfl, flatHB_of rfl⟩) hk

@[go_sem] def hr131 : Hints
  | 0 => [0, 1] | 1 => [0, 1] | _ => []
@[go_sem] def hl131 : Hints := fun _ => []
attribute [go_sem] Go.Proofs.Try.results131
set_option maxRecDepth 100000 in
set_option maxHeartbeats 2000000 in
theorem ci_longer1 (s : List UInt8) (m : Int) : CallOK Go.Proofs.Try.prog 131 [.d (.str s), .d (.ptr [.int .i64 m])] [] [.dead, .dead] (.d (.bool (decide (m < s.length)))) [] := by
  refine call_of tysZOK mixedZ Go.Proofs.Try.func131 (by kernel_rfl) rfl (np := [false, false]) (by kernel_rfl) hr131 hl131 (by simp [Go.Proofs.Try.ntmps131]) ?_
  simp -implicitDefEqProofs (maxSteps := 3000000) only [go_sem, reduceCtorEq]
theorem ki_longer1 {h : Heap} {tb : Nat} {K : OK} {args : List V} {ls : List Nat} (s : List UInt8) (m : Int) (hg : toDs h args = some ([.str s, .ptr [.int .i64 m]], ls))
    (hk : K (renV (bk tb ([])) (.d (.bool (decide (m < s.length))))) (updN tb ([]) ([]))) : callVC Go.Proofs.Try.prog h tb 131 args K :=
  call_free hg (ci_longer1 s m) rfl (.inr ⟨flat_of rfl, flatHB_of rfl⟩) hk
def longer (l : List (List UInt8)) (m : Int) : Bool := l.any fun s => decide (m < s.length)
@[go_sem] def hr116 : Hints
  | 0 => [0, 1] | 1 => [0, 3] | _ => []
@[go_sem] def hl116 : Hints := fun _ => []
attribute [go_sem] Go.Proofs.Try.results116
set_option maxRecDepth 100000 in
set_option maxHeartbeats 2000000 in
theorem ci_longer (l : List (List UInt8)) (m : Int) (hl : l.length ≤ LEN) : CallOK Go.Proofs.Try.prog 116 [.d (.sl (strs l)), .d (.int .i64 m)] [] [.dead, .dead] (.d (.bool (longer l m))) [] := by
  refine call_of tysZOK mixedZ Go.Proofs.Try.func116 (by kernel_rfl) rfl (np := [false, false]) (by kernel_rfl) hr116 hl116 (by simp [Go.Proofs.Try.ntmps116]) ?_
  simp -implicitDefEqProofs (maxSteps := 3000000) only [go_sem, reduceCtorEq]
  refine ki_conStr l 131 [.ptr [.int .i64 m]] (fun s => decide (m < s.length)) hl (fun p hp => ci_longer1 p m) rfl ?_
  simp -implicitDefEqProofs (maxSteps := 3000000) only [go_sem, reduceCtorEq]
  rfl
theorem ki_longer {h : Heap} {tb : Nat} {K : OK} {args : List V} {ls : List Nat} (l : List (List UInt8)) (m : Int) (hl : l.length ≤ LEN) (hg : toDs h args = some ([.sl (strs l), .int .i64 m], ls))
    (hk : K (renV (bk tb ([])) (.d (.bool (longer l m)))) (updN tb ([]) ([]))) : callVC Go.Proofs.Try.prog h tb 116 args K :=
  call_free hg (ci_longer l m hl) rfl (.inr ⟨flat_of rfl, flatHB_of rfl⟩) hk
theorem longer_iff {l : List (List UInt8)} {m : Int} : longer l m = false ↔ ∀ s ∈ l, (s.length : Int) ≤ m := by
  simp [longer]

@[go_sem] def hr117 : Hints
  | 0 => [0, 1] | 1 => [0, 1] | 2 => [0, 1, 7, 8] | 3 => [0, 1, 7, 8] | 4 => [0, 1, 5, 7, 8] | 5 => [5] | 6 => [0, 1, 7, 8] | 7 => [] | _ => []
@[go_sem] def hl117 : Hints
  | 2 => [0, 1, 7, 8] | _ => []
attribute [go_sem] Go.Proofs.Try.results117
set_option maxRecDepth 100000 in
set_option maxHeartbeats 2000000 in
theorem ci_Index (l : List Int) (x : Int) (hl : l.length ≤ LEN) : CallOK Go.Proofs.Try.prog 117 [.d (.sl (ints l)), .d (.int .i64 x)] [] [.dead, .dead] (.d (.int .i64 (idxF (fun y => decide (x = y)) l))) [] := by
  refine call_of tysZOK mixedZ Go.Proofs.Try.func117 (by kernel_rfl) rfl (np := [false, false]) (by kernel_rfl) hr117 hl117 (by simp [Go.Proofs.Try.ntmps117]) ?_
  simp -implicitDefEqProofs (maxSteps := 3000000) only [go_sem, reduceCtorEq]
  refine loop_data (α := Nat) (fun i => ⟨[(0, .d (.sl (ints l))), (1, .d (.int .i64 x)), (7, .d (.int .i64 l.length)), (8, .d (.int .i64 i))], []⟩)
    (fun i => i ≤ l.length ∧ ∀ q ∈ l.take i, decide (x = q) = false) (fun i => l.length - i) 0 rfl ⟨Nat.zero_le _, by simp⟩ ?_
  rintro i ⟨h2, h3⟩
  simp -implicitDefEqProofs (maxSteps := 3000000) only [go_sem, reduceCtorEq]
  (first | (refine way_dec (fun h5 => ?_) (fun h5 => ?_)) | (refine way_ndec (fun h5 => ?_) (fun h5 => ?_)) | (refine wayT_dec (fun h5 => ?_) (fun h5 => ?_)) | (refine wayF_dec (fun h5 => ?_) (fun h5 => ?_)) | (refine wayT_ndec (fun h5 => ?_) (fun h5 => ?_)) | (refine wayF_ndec (fun h5 => ?_) (fun h5 => ?_)) | (refine way_not (fun h5 => ?_) (fun h5 => ?_)) | (refine way (fun h5 => ?_) (fun h5 => ?_)) | (refine wayT (fun h5 => ?_) (fun h5 => ?_)) | (refine wayF (fun h5 => ?_) (fun h5 => ?_)))
  · obtain ⟨p, hp⟩ := some_at h5
    simp -implicitDefEqProofs (maxSteps := 3000000) only [go_sem, reduceCtorEq, lget_ints hp]
    repeat ((first | refine req (by first | omega | assumption | exact commP_of (by kernel_rfl) | (simp only [LEN, List.length_append, List.length_cons, List.length_nil]; omega) | (simp [D.one]; omega) | (simp [D.one]; done)) ?_); simp -implicitDefEqProofs (maxSteps := 3000000) only [go_sem, reduceCtorEq, lget_ints hp])
    (first | (refine way_dec (fun h6 => ?_) (fun h6 => ?_)) | (refine way_ndec (fun h6 => ?_) (fun h6 => ?_)) | (refine wayT_dec (fun h6 => ?_) (fun h6 => ?_)) | (refine wayF_dec (fun h6 => ?_) (fun h6 => ?_)) | (refine wayT_ndec (fun h6 => ?_) (fun h6 => ?_)) | (refine wayF_ndec (fun h6 => ?_) (fun h6 => ?_)) | (refine way_not (fun h6 => ?_) (fun h6 => ?_)) | (refine way (fun h6 => ?_) (fun h6 => ?_)) | (refine wayT (fun h6 => ?_) (fun h6 => ?_)) | (refine wayF (fun h6 => ?_) (fun h6 => ?_)))
    · simp -implicitDefEqProofs (maxSteps := 3000000) only [go_sem, reduceCtorEq]
      rw [idxF_step hp h3 (by simpa using h6)]
    · simp -implicitDefEqProofs (maxSteps := 3000000) only [go_sem, reduceCtorEq]
      rw [wrap_succ (by omega)]
      refine next_data (i + 1) rfl ⟨by omega, fun q hq => ?_⟩ (by omega)
      rcases mem_takeS hp hq with hq | rfl
      · exact h3 q hq
      · simpa using h6
  · simp -implicitDefEqProofs (maxSteps := 3000000) only [go_sem, reduceCtorEq]
    rw [List.take_of_length_le (by omega)] at h3
    rw [idxF_none h3]
theorem ki_Index {h : Heap} {tb : Nat} {K : OK} {args : List V} {ls : List Nat} (l : List Int) (x : Int) (hl : l.length ≤ LEN) (hg : toDs h args = some ([.sl (ints l), .int .i64 x], ls))
    (hk : K (renV (bk tb ([])) (.d (.int .i64 (idxF (fun y => decide (x = y)) l)))) (updN tb ([]) ([]))) : callVC Go.Proofs.Try.prog h tb 117 args K :=
  call_free hg (ci_Index l x hl) rfl (.inr ⟨flat_of rfl, flatHB_of rfl⟩) hk
@[go_sem] def hr99 : Hints
  | 0 => [0, 1] | 1 => [0, 1] | _ => []
@[go_sem] def hl99 : Hints := fun _ => []
attribute [go_sem] Go.Proofs.Try.results99
set_option maxRecDepth 100000 in
set_option maxHeartbeats 2000000 in
theorem ci_Contains (l : List Int) (x : Int) (hl : l.length ≤ LEN) : CallOK Go.Proofs.Try.prog 99 [.d (.sl (ints l)), .d (.int .i64 x)] [] [.dead, .dead] (.d (.bool (decide (x ∈ l)))) [] := by
  refine call_of tysZOK mixedZ Go.Proofs.Try.func99 (by kernel_rfl) rfl (np := [false, false]) (by kernel_rfl) hr99 hl99 (by simp [Go.Proofs.Try.ntmps99]) ?_
  simp -implicitDefEqProofs (maxSteps := 3000000) only [go_sem, reduceCtorEq]
  refine ki_Index l x hl rfl ?_
  simp -implicitDefEqProofs (maxSteps := 3000000) only [go_sem, reduceCtorEq]
  rw [idxF_any, any_dec]
  simp
theorem ki_Contains {h : Heap} {tb : Nat} {K : OK} {args : List V} {ls : List Nat} (l : List Int) (x : Int) (hl : l.length ≤ LEN) (hg : toDs h args = some ([.sl (ints l), .int .i64 x], ls))
    (hk : K (renV (bk tb ([])) (.d (.bool (decide (x ∈ l))))) (updN tb ([]) ([]))) : callVC Go.Proofs.Try.prog h tb 99 args K :=
  call_free hg (ci_Contains l x hl) rfl (.inr ⟨flat_of rfl, flatHB_of rfl⟩) hk

@[go_sem] def hr97 : Hints
  | 0 => [0] | 1 => [1] | 2 => [] | 3 => [1] | 4 => [1] | 5 => [1] | 6 => [1, 43, 44, 45] | 7 => [1, 43, 44, 45] | 8 => [1, 3, 4, 43, 44, 45] | 9 => [] | 10 => [1, 43, 44, 45] | 11 => [1] | _ => []
@[go_sem] def hl97 : Hints
  | 6 => [1, 43, 44, 45] | _ => []
attribute [go_sem] Go.Proofs.Try.results97
set_option maxRecDepth 100000 in
set_option maxHeartbeats 2000000 in
theorem ci_NodeOk (n : GNode) (h1 : n.fKeys.length ≤ LEN) (h2 : n.fVals.length ≤ LEN) (h3 : n.fKids.length ≤ LEN) : CallOK Go.Proofs.Try.prog 97 [.d (.agg n.cells)] [] [.dead] (.d (.bool (decide (nodeOk n)))) [] := by
  refine call_of tysZOK mixedZ Go.Proofs.Try.func97 (by kernel_rfl) rfl (np := [false]) (by kernel_rfl) hr97 hl97 (by simp [Go.Proofs.Try.ntmps97]) ?_
  simp -implicitDefEqProofs (maxSteps := 3000000) only [go_sem, reduceCtorEq, GNode.cells]
  by_cases g1 : (1 : Int) ≤ n.fKeys.length ∧ (n.fKeys.length : Int) ≤ 4
  · by_cases g2 : ascK n.fKeys
    · cases g3 : longer n.fKeys 24
      · have g3' := longer_iff.1 g3
        have d1 := decide_eq_true g1
        have d2 := decide_eq_true g2
        repeat ((first | refine ki_in _ _ _ rfl ?_ | refine ki_ascending n.fKeys h1 rfl ?_ | refine ki_longer n.fKeys 24 h1 rfl ?_ | refine req (by first | omega | assumption | exact commP_of (by kernel_rfl) | (simp only [LEN, List.length_append, List.length_cons, List.length_nil]; omega) | (simp [D.one]; omega) | (simp [D.one]; done)) ?_); simp -implicitDefEqProofs (maxSteps := 3000000) only [go_sem, reduceCtorEq, d1, d2, g3])
        cases hl : n.fLeaf
        · have hiff := nodeOk_branch hl
          simp -implicitDefEqProofs (maxSteps := 3000000) only [go_sem, reduceCtorEq]
          refine loop_data (α := Nat) (fun i => ⟨[(1, .ref 0 0), (43, .d (.sl (ints n.fKids))), (44, .d (.int .i64 n.fKids.length)), (45, .d (.int .i64 i))], [(0, some (.box [.d (.bool false), .d (.sl (strs n.fKeys)), .d (.sl (strs n.fVals)), .d (.sl (ints n.fKids))]))]⟩)
            (fun i => i ≤ n.fKids.length ∧ (∀ k ∈ n.fKids.take i, 2 ≤ k ∧ k ≤ 39) ∧ (n.fKids.take i).Nodup) (fun i => n.fKids.length - i) 0 rfl ⟨Nat.zero_le _, by simp, by simp⟩ ?_
          rintro i ⟨i1, i2, i3⟩
          simp -implicitDefEqProofs (maxSteps := 3000000) only [go_sem, reduceCtorEq]
          (first | (refine way_dec (fun h5 => ?_) (fun h5 => ?_)) | (refine way_ndec (fun h5 => ?_) (fun h5 => ?_)) | (refine wayT_dec (fun h5 => ?_) (fun h5 => ?_)) | (refine wayF_dec (fun h5 => ?_) (fun h5 => ?_)) | (refine wayT_ndec (fun h5 => ?_) (fun h5 => ?_)) | (refine wayF_ndec (fun h5 => ?_) (fun h5 => ?_)) | (refine way_not (fun h5 => ?_) (fun h5 => ?_)) | (refine way (fun h5 => ?_) (fun h5 => ?_)) | (refine wayT (fun h5 => ?_) (fun h5 => ?_)) | (refine wayF (fun h5 => ?_) (fun h5 => ?_)))
          · obtain ⟨p, hp⟩ := some_at h5
            by_cases g4 : 2 ≤ p ∧ p ≤ 39
            · have d4 := decide_eq_true g4
              simp -implicitDefEqProofs (maxSteps := 3000000) only [go_sem, reduceCtorEq, lget_ints hp]
              repeat ((first | refine ki_in _ _ _ rfl ?_ | refine ki_Contains (n.fKids.take i) p (by simp only [List.length_take]; omega) rfl ?_ | refine req (by first | omega | assumption | exact commP_of (by kernel_rfl) | (simp only [LEN, List.length_append, List.length_cons, List.length_nil]; omega) | (simp [D.one]; omega) | (simp [D.one]; done)) ?_); simp -implicitDefEqProofs (maxSteps := 3000000) only [go_sem, reduceCtorEq, lget_ints hp, d4, ints_take])
              (first | (refine way_dec (fun g5 => ?_) (fun g5 => ?_)) | (refine way_ndec (fun g5 => ?_) (fun g5 => ?_)) | (refine wayT_dec (fun g5 => ?_) (fun g5 => ?_)) | (refine wayF_dec (fun g5 => ?_) (fun g5 => ?_)) | (refine wayT_ndec (fun g5 => ?_) (fun g5 => ?_)) | (refine wayF_ndec (fun g5 => ?_) (fun g5 => ?_)) | (refine way_not (fun g5 => ?_) (fun g5 => ?_)) | (refine way (fun g5 => ?_) (fun g5 => ?_)) | (refine wayT (fun g5 => ?_) (fun g5 => ?_)) | (refine wayF (fun g5 => ?_) (fun g5 => ?_)))
              · simp -implicitDefEqProofs (maxSteps := 3000000) only [go_sem, reduceCtorEq]
                have : ¬ nodeOk n := fun h => by
                  have hnd := (hiff.1 h).2.2.2.2.2.2
                  have := List.Nodup.sublist (List.take_sublist (i + 1) n.fKids) hnd
                  rw [take_snoc hp] at this
                  exact (List.nodup_append.1 this).2.2 p g5 p (by simp) rfl
                simp [this]
              · simp -implicitDefEqProofs (maxSteps := 3000000) only [go_sem, reduceCtorEq]
                rw [wrap_succ (by omega)]
                refine next_data (i + 1) rfl ⟨by omega, fun k hk => ?_, nodup_snoc hp i3 g5⟩ (by omega)
                rcases mem_takeS hp hk with hk | rfl
                · exact i2 k hk
                · exact g4
            · have d4 := decide_eq_false g4
              simp -implicitDefEqProofs (maxSteps := 3000000) only [go_sem, reduceCtorEq, lget_ints hp]
              repeat ((first | refine ki_in _ _ _ rfl ?_ | refine req (by first | omega | assumption | exact commP_of (by kernel_rfl) | (simp only [LEN, List.length_append, List.length_cons, List.length_nil]; omega) | (simp [D.one]; omega) | (simp [D.one]; done)) ?_); simp -implicitDefEqProofs (maxSteps := 3000000) only [go_sem, reduceCtorEq, lget_ints hp, d4])
              have : ¬ nodeOk n := fun h => g4 ((hiff.1 h).2.2.2.2.2.1 p (List.mem_of_getElem? hp))
              simp [this]
          · simp -implicitDefEqProofs (maxSteps := 3000000) only [go_sem, reduceCtorEq]
            rw [List.take_of_length_le (by omega)] at i2 i3
            by_cases g6 : (n.fKids.length : Int) = n.fKeys.length
            · have d6 := decide_eq_true g6
              simp -implicitDefEqProofs (maxSteps := 3000000) only [go_sem, reduceCtorEq, d6]
              have : decide (nodeOk n) = decide ((n.fVals.length : Int) = 0) := decide_eq_decide.2 ⟨fun h => by have := (hiff.1 h).2.2.2.2.1; omega, fun h => hiff.2 ⟨by omega, g2, fun k hk => by have := g3' k hk; omega, by omega, by omega, i2, i3⟩⟩
              rw [this]
            · have d6 := decide_eq_false g6
              simp -implicitDefEqProofs (maxSteps := 3000000) only [go_sem, reduceCtorEq, d6]
              have : ¬ nodeOk n := fun h => g6 (by have := (hiff.1 h).2.2.2.1; omega)
              simp [this]
        · have hiff := nodeOk_leaf hl
          simp -implicitDefEqProofs (maxSteps := 3000000) only [go_sem, reduceCtorEq]
          by_cases g4 : (n.fVals.length : Int) = n.fKeys.length
          · have d4 := decide_eq_true g4
            simp -implicitDefEqProofs (maxSteps := 3000000) only [go_sem, reduceCtorEq, d4]
            refine ki_longer n.fVals 24 h2 rfl ?_
            cases g5 : longer n.fVals 24
            · have g5' := longer_iff.1 g5
              simp -implicitDefEqProofs (maxSteps := 3000000) only [go_sem, reduceCtorEq]
              have : decide (nodeOk n) = decide ((n.fKids.length : Int) = 0) := decide_eq_decide.2 ⟨fun h => by have := (hiff.1 h).2.2.2.2.2; omega, fun h => hiff.2 ⟨by omega, g2, fun k hk => by have := g3' k hk; omega, by omega, fun k hk => by have := g5' k hk; omega, by omega⟩⟩
              rw [this]
            · simp -implicitDefEqProofs (maxSteps := 3000000) only [go_sem, reduceCtorEq]
              have : ¬ nodeOk n := fun h => by
                have : longer n.fVals 24 = false := longer_iff.2 fun k hk => by have := (hiff.1 h).2.2.2.2.1 k hk; omega
                rw [this] at g5; cases g5
              simp [this]
          · have d4 := decide_eq_false g4
            simp -implicitDefEqProofs (maxSteps := 3000000) only [go_sem, reduceCtorEq, d4]
            have : ¬ nodeOk n := fun h => g4 (by have := (hiff.1 h).2.2.2.1; omega)
            simp [this]
      · have d1 := decide_eq_true g1
        have d2 := decide_eq_true g2
        repeat ((first | refine ki_in _ _ _ rfl ?_ | refine ki_ascending n.fKeys h1 rfl ?_ | refine ki_longer n.fKeys 24 h1 rfl ?_ | refine req (by first | omega | assumption | exact commP_of (by kernel_rfl) | (simp only [LEN, List.length_append, List.length_cons, List.length_nil]; omega) | (simp [D.one]; omega) | (simp [D.one]; done)) ?_); simp -implicitDefEqProofs (maxSteps := 3000000) only [go_sem, reduceCtorEq, d1, d2, g3])
        have : ¬ nodeOk n := fun h => by
          have : longer n.fKeys 24 = false := longer_iff.2 fun k hk => by have := h.2.2.2.1 k hk; omega
          rw [this] at g3; cases g3
        simp [this]
    · have d1 := decide_eq_true g1
      have d2 := decide_eq_false g2
      repeat ((first | refine ki_in _ _ _ rfl ?_ | refine ki_ascending n.fKeys h1 rfl ?_ | refine req (by first | omega | assumption | exact commP_of (by kernel_rfl) | (simp only [LEN, List.length_append, List.length_cons, List.length_nil]; omega) | (simp [D.one]; omega) | (simp [D.one]; done)) ?_); simp -implicitDefEqProofs (maxSteps := 3000000) only [go_sem, reduceCtorEq, d1, d2])
      have : ¬ nodeOk n := fun h => g2 h.2.2.1
      simp [this]
  · have d1 := decide_eq_false g1
    repeat ((first | refine ki_in _ _ _ rfl ?_ | refine req (by first | omega | assumption | exact commP_of (by kernel_rfl) | (simp only [LEN, List.length_append, List.length_cons, List.length_nil]; omega) | (simp [D.one]; omega) | (simp [D.one]; done)) ?_); simp -implicitDefEqProofs (maxSteps := 3000000) only [go_sem, reduceCtorEq, d1])
    have : ¬ nodeOk n := fun h => g1 ⟨by have := h.1; omega, by have := h.2.1; omega⟩
    simp [this]
theorem ki_NodeOk {h : Heap} {tb : Nat} {K : OK} {args : List V} {ls : List Nat} (n : GNode) (h1 : n.fKeys.length ≤ LEN) (h2 : n.fVals.length ≤ LEN) (h3 : n.fKids.length ≤ LEN) (hg : toDs h args = some ([.agg n.cells], ls))
    (hk : K (renV (bk tb ([])) (.d (.bool (decide (nodeOk n))))) (updN tb ([]) ([]))) : callVC Go.Proofs.Try.prog h tb 97 args K :=
  call_free hg (ci_NodeOk n h1 h2 h3) rfl (.inr ⟨flat_of rfl, flatHB_of rfl⟩) hk
end Go.Rx

namespace Go.Rx
open Go
attribute [local irreducible] Req Way WayG Sel callVC CallOK
set_option linter.unusedSimpArgs false
set_option linter.unusedVariables false

@[go_sem] def hr95 : Hints
  | 0 => [0, 1] | 1 => [0, 1] | 2 => [0, 1, 5, 6, 7] | 3 => [0] | 4 => [0] | 5 => [0, 5, 6] | 6 => [0, 5] | _ => []
@[go_sem] def hl95 : Hints := fun _ => []
attribute [go_sem] Go.Proofs.Try.results95
set_option maxRecDepth 100000 in
set_option maxHeartbeats 2000000 in
theorem ci_num (t : List UInt8) (m : Int) (r : Nat × Bool) (ht : t.length ≤ 4611686018427387904) : CallOK Go.Proofs.Try.prog 95 [.ref 0 0, .d (.int .i64 m)] [(0, .box [.d (.str t), .d (.int .i64 r.1), .d (.bool r.2)])] [.ref 0 0, .dead] (.d (.int .i64 (rdV t m r).1)) [(0, .box [.d (.str t), .d (.int .i64 (rdV t m r).2.1), .d (.bool (rdV t m r).2.2)])] := by
  refine call_of tysZOK mixedZ Go.Proofs.Try.func95 (by kernel_rfl) rfl (np := [true, false]) (by kernel_rfl) hr95 hl95 (by simp [Go.Proofs.Try.ntmps95]) ?_
  simp -implicitDefEqProofs (maxSteps := 3000000) only [go_sem, reduceCtorEq]
  refine ki_ReadVar t r.1 ht rfl ⟨flat_rvV, flatH_nil⟩ ?_
  rw [rdV]
  obtain ⟨a, b⟩ := r
  cases hv : readVar t (a : Int) with
  | none =>
    simp only [rvV]
    simp -implicitDefEqProofs (maxSteps := 3000000) only [go_sem, reduceCtorEq]
    repeat ((first | refine req (by first | omega | assumption | exact commP_of (by kernel_rfl) | (simp only [LEN, List.length_append, List.length_cons, List.length_nil]; omega) | (simp [D.one]; omega) | (simp [D.one]; done)) ?_); simp -implicitDefEqProofs (maxSteps := 3000000) only [go_sem, reduceCtorEq])
    cases b
    · simp -implicitDefEqProofs (maxSteps := 3000000) only [go_sem, reduceCtorEq]
      rfl
    · simp -implicitDefEqProofs (maxSteps := 3000000) only [go_sem, reduceCtorEq]
      rfl
  | some p =>
    obtain ⟨n, c⟩ := p
    simp only [rvV]
    simp -implicitDefEqProofs (maxSteps := 3000000) only [go_sem, reduceCtorEq]
    repeat ((first | refine req (by first | omega | assumption | exact commP_of (by kernel_rfl) | (simp only [LEN, List.length_append, List.length_cons, List.length_nil]; omega) | (simp [D.one]; omega) | (simp [D.one]; done)) ?_); simp -implicitDefEqProofs (maxSteps := 3000000) only [go_sem, reduceCtorEq])
    cases b
    · simp -implicitDefEqProofs (maxSteps := 3000000) only [go_sem, reduceCtorEq]
      (first | (refine way_dec (fun h1 => ?_) (fun h1 => ?_)) | (refine way_ndec (fun h1 => ?_) (fun h1 => ?_)) | (refine wayT_dec (fun h1 => ?_) (fun h1 => ?_)) | (refine wayF_dec (fun h1 => ?_) (fun h1 => ?_)) | (refine wayT_ndec (fun h1 => ?_) (fun h1 => ?_)) | (refine wayF_ndec (fun h1 => ?_) (fun h1 => ?_)) | (refine way_not (fun h1 => ?_) (fun h1 => ?_)) | (refine way (fun h1 => ?_) (fun h1 => ?_)) | (refine wayT (fun h1 => ?_) (fun h1 => ?_)) | (refine wayF (fun h1 => ?_) (fun h1 => ?_)))
      · simp -implicitDefEqProofs (maxSteps := 3000000) only [go_sem, reduceCtorEq]
        rw [if_pos (.inr h1)]; rfl
      · simp -implicitDefEqProofs (maxSteps := 3000000) only [go_sem, reduceCtorEq]
        rw [if_neg (fun h => h.elim (fun h => by cases h) h1)]
    · simp -implicitDefEqProofs (maxSteps := 3000000) only [go_sem, reduceCtorEq]
      simp
theorem ki_num {h : Heap} {tb : Nat} {K : OK} {n0 : Nat} {rest : List V} {ls : List Nat} (t : List UInt8) (m : Int) (r : Nat × Bool) (ht : t.length ≤ 4611686018427387904) (hn : h n0 = some (.box [.d (.str t), .d (.int .i64 r.1), .d (.bool r.2)])) (hro : refO h n0 = [n0]) (hr : toDs h rest = some ([.int .i64 m], ls)) (hnl : (ls : List Nat).contains n0 = false)
    (hk : K (renV (bx n0 tb [(0, .box [.d (.str t), .d (.int .i64 (rdV t m r).2.1), .d (.bool (rdV t m r).2.2)])]) (.d (.int .i64 (rdV t m r).1))) ((bif false then (ls : List Nat).map (·, none) else []) ++ (n0, none) :: updX n0 tb [(0, .box [.d (.str t), .d (.int .i64 (rdV t m r).2.1), .d (.bool (rdV t m r).2.2)])] [(0, .box [.d (.str t), .d (.int .i64 (rdV t m r).2.1), .d (.bool (rdV t m r).2.2)])])) : callVC Go.Proofs.Try.prog h tb 95 (.ref n0 0 :: rest) K :=
  call_box_ false hn hro rfl hr hnl (ci_num t m r ht) rfl rfl (.inr (.inr ⟨flat_of rfl, flatHB_of rfl⟩)) hk
@[go_sem] def hr96 : Hints
  | 0 => [0] | 1 => [0] | 2 => [0, 3, 4, 5] | 3 => [0] | 4 => [0] | 5 => [0, 3, 4] | 6 => [0, 3] | _ => []
@[go_sem] def hl96 : Hints := fun _ => []
attribute [go_sem] Go.Proofs.Try.results96
set_option maxRecDepth 100000 in
set_option maxHeartbeats 2000000 in
theorem ci_text (t : List UInt8) (r : Nat × Bool) (ht : t.length ≤ 4611686018427387904) : CallOK Go.Proofs.Try.prog 96 [.ref 0 0] [(0, .box [.d (.str t), .d (.int .i64 r.1), .d (.bool r.2)])] [.ref 0 0] (.d (.str (rdT t r).1)) [(0, .box [.d (.str t), .d (.int .i64 (rdT t r).2.1), .d (.bool (rdT t r).2.2)])] := by
  refine call_of tysZOK mixedZ Go.Proofs.Try.func96 (by kernel_rfl) rfl (np := [true]) (by kernel_rfl) hr96 hl96 (by simp [Go.Proofs.Try.ntmps96]) ?_
  simp -implicitDefEqProofs (maxSteps := 3000000) only [go_sem, reduceCtorEq]
  refine ki_ReadShort t r.1 ht rfl ⟨flat_rsV, flatH_nil⟩ ?_
  rw [rdT]
  obtain ⟨a, b⟩ := r
  cases hv : readShort t (a : Int) with
  | none =>
    simp only [rsV]
    simp -implicitDefEqProofs (maxSteps := 3000000) only [go_sem, reduceCtorEq]
    repeat ((first | refine req (by first | omega | assumption | exact commP_of (by kernel_rfl) | (simp only [LEN, List.length_append, List.length_cons, List.length_nil]; omega) | (simp [D.one]; omega) | (simp [D.one]; done)) ?_); simp -implicitDefEqProofs (maxSteps := 3000000) only [go_sem, reduceCtorEq])
    cases b
    · simp -implicitDefEqProofs (maxSteps := 3000000) only [go_sem, reduceCtorEq]
    · simp -implicitDefEqProofs (maxSteps := 3000000) only [go_sem, reduceCtorEq]
  | some p =>
    obtain ⟨n, c⟩ := p
    simp only [rsV]
    simp -implicitDefEqProofs (maxSteps := 3000000) only [go_sem, reduceCtorEq]
    repeat ((first | refine req (by first | omega | assumption | exact commP_of (by kernel_rfl) | (simp only [LEN, List.length_append, List.length_cons, List.length_nil]; omega) | (simp [D.one]; omega) | (simp [D.one]; done)) ?_); simp -implicitDefEqProofs (maxSteps := 3000000) only [go_sem, reduceCtorEq])
    cases b
    · simp -implicitDefEqProofs (maxSteps := 3000000) only [go_sem, reduceCtorEq]
      simp
    · simp -implicitDefEqProofs (maxSteps := 3000000) only [go_sem, reduceCtorEq]
      simp
theorem ki_text {h : Heap} {tb : Nat} {K : OK} {n0 : Nat} {rest : List V} {ls : List Nat} (t : List UInt8) (r : Nat × Bool) (ht : t.length ≤ 4611686018427387904) (hn : h n0 = some (.box [.d (.str t), .d (.int .i64 r.1), .d (.bool r.2)])) (hro : refO h n0 = [n0]) (hr : toDs h rest = some ([], ls)) (hnl : (ls : List Nat).contains n0 = false)
    (hk : K (renV (bx n0 tb [(0, .box [.d (.str t), .d (.int .i64 (rdT t r).2.1), .d (.bool (rdT t r).2.2)])]) (.d (.str (rdT t r).1))) ((bif false then (ls : List Nat).map (·, none) else []) ++ (n0, none) :: updX n0 tb [(0, .box [.d (.str t), .d (.int .i64 (rdT t r).2.1), .d (.bool (rdT t r).2.2)])] [(0, .box [.d (.str t), .d (.int .i64 (rdT t r).2.1), .d (.bool (rdT t r).2.2)])])) : callVC Go.Proofs.Try.prog h tb 96 (.ref n0 0 :: rest) K :=
  call_box_ false hn hro rfl hr hnl (ci_text t r ht) rfl rfl (.inr (.inr ⟨flat_of rfl, flatHB_of rfl⟩)) hk

def nodeV : Option GNode → V
  | none => .tup [.d (.agg GNode.zero.cells), .d (.bool false)]
  | some n => .tup [.d (.agg n.cells), .d (.bool true)]

@[go_sem] def hr78 : Hints
  | 0 => [0] | 1 => [0, 2] | 2 => [2, 4, 5] | 3 => [2] | 4 => [2, 4] | 5 => [2, 4, 6] | 6 => [2, 4, 6, 7] | 7 => [2, 4, 6, 7, 36, 37] | 8 => [2, 4, 6, 7, 36, 37] | 9 => [2, 4, 6, 7, 36, 37] | 10 => [2, 4, 6, 7, 36, 37] | 11 => [2, 4, 6, 7, 36, 37] | 12 => [2, 4, 6, 7, 36, 37] | 13 => [2, 4, 6, 7] | 14 => [2] | 15 => [2, 6] | _ => []
@[go_sem] def hl78 : Hints
  | 7 => [2, 4, 6, 7, 36, 37] | _ => []
attribute [go_sem] Go.Proofs.Try.results78
set_option maxRecDepth 100000 in
set_option maxHeartbeats 2000000 in
theorem ci_ReadNode (t : List UInt8) (ht : t.length ≤ 4611686018427387904) : CallOK Go.Proofs.Try.prog 78 [.d (.str t)] [] [.dead] (nodeV (readNode t)) [] := by
  refine call_fr tysZOK mixedZ Go.Proofs.Try.func78 (by kernel_rfl) rfl (by kernel_rfl) hr78 hl78 (by simp [Go.Proofs.Try.ntmps78]) rfl ?_
  simp -implicitDefEqProofs (maxSteps := 3000000) only [go_sem, reduceCtorEq]
  refine ki_Unsealed t ht rfl ⟨flat_unV, flatH_nil⟩ ?_
  rw [readNode]
  cases hu : unsealB t with
  | none =>
    simp only [unV]
    simp -implicitDefEqProofs (maxSteps := 3000000) only [go_sem, reduceCtorEq]
    rfl
  | some s =>
    have hs : s.length ≤ 20000 := (unseal_iff.1 hu).1
    simp only [unV]
    cases s with
    | nil =>
      simp -implicitDefEqProofs (maxSteps := 3000000) only [go_sem, reduceCtorEq]
      rfl
    | cons c b =>
      have hne : decide (c :: b = []) = false := rfl
      have hg : (c :: b).getD 0 0 = c := rfl
      have hr0 : (decide (((c.toNat : Nat) : Int) = 108)) = decide (c = 108) := decide_eq_decide.2 ⟨fun h => u8_eq.1 ((show c.toNat = 108 by omega).trans rfl), fun h => by subst h; rfl⟩
      rw [readBody_run]
      by_cases hc : c = 108
      · have dc := decide_eq_true hc
        rw [if_pos hc]
        have hst : runStart c = (1, false) := by subst hc; rfl
        simp -implicitDefEqProofs (maxSteps := 3000000) only [go_sem, reduceCtorEq, hne, hg, hr0, dc, List.length_cons]
        repeat ((first | refine req (by first | omega | assumption | exact commP_of (by kernel_rfl) | (simp only [LEN, List.length_append, List.length_cons, List.length_nil]; omega) | (simp [D.one]; omega) | (simp [D.one]; done)) ?_ | refine ki_num (c :: b) 4 (1, false) (by omega) rfl rfl rfl rfl ?_); simp -implicitDefEqProofs (maxSteps := 3000000) only [go_sem, reduceCtorEq, hne, hg, hr0, dc, List.length_cons])
        have hk4 : (rdV (c :: b) 4 (1, false)).1 ≤ 4 := rdV_most (m := 4)
        rw [runLeaf, hst]
        generalize hkr : rdV (c :: b) 4 (1, false) = kr at hk4 ⊢
        obtain ⟨k, r1⟩ := kr
        simp only at hk4 ⊢
        refine loop_data (α := Nat × List (List UInt8 × List UInt8) × (Nat × Bool)) (fun x => ⟨[(2, .ref 0 0), (4, .d (.str (c :: b))), (6, .ref 4 0), (7, .ref 8 0), (36, .d (.int .i64 k)), (37, .d (.int .i64 x.1))],
            [(0, some (.box [.d (.bool false), .own 1 0 0, .own 2 0 0, .own 3 0 0])), (1, some (.arr 1 [])), (2, some (.arr 1 [])), (3, some (.arr 1 [])),
             (4, some (.box [.d (.bool true), .own 5 0 (x.2.1.map (·.1)).length, .own 6 0 (x.2.1.map (·.2)).length, .own 7 0 0])), (5, some (.arr 1 (strs (x.2.1.map (·.1))))), (6, some (.arr 1 (strs (x.2.1.map (·.2))))), (7, some (.arr 1 [])),
             (8, some (.box [.d (.str (c :: b)), .d (.int .i64 x.2.2.1), .d (.bool x.2.2.2)]))]⟩)
          (fun x => x.1 ≤ k ∧ x.2 = rdLs (c :: b) x.1 r1) (fun x => k - x.1) (0, [], r1) rfl ⟨Nat.zero_le _, rfl⟩ ?_
        rintro ⟨i, es, r⟩ ⟨i1, i2⟩
        simp only at i1 i2
        have hlen : es.length = i := by have := rdLs_len (t := c :: b) (k := i) (r := r1); rw [← i2] at this; exact this
        simp -implicitDefEqProofs (maxSteps := 3000000) only [go_sem, reduceCtorEq]
        (first | (refine way_dec (fun h5 => ?_) (fun h5 => ?_)) | (refine way_ndec (fun h5 => ?_) (fun h5 => ?_)) | (refine wayT_dec (fun h5 => ?_) (fun h5 => ?_)) | (refine wayF_dec (fun h5 => ?_) (fun h5 => ?_)) | (refine wayT_ndec (fun h5 => ?_) (fun h5 => ?_)) | (refine wayF_ndec (fun h5 => ?_) (fun h5 => ?_)) | (refine way_not (fun h5 => ?_) (fun h5 => ?_)) | (refine way (fun h5 => ?_) (fun h5 => ?_)) | (refine wayT (fun h5 => ?_) (fun h5 => ?_)) | (refine wayF (fun h5 => ?_) (fun h5 => ?_)))
        · simp -implicitDefEqProofs (maxSteps := 3000000) only [go_sem, reduceCtorEq]
          repeat ((first | refine req (by first | omega | assumption | exact commP_of (by kernel_rfl) | (simp only [LEN, List.length_append, List.length_cons, List.length_nil]; omega) | (simp [D.one]; omega) | (simp [D.one]; done)) ?_ | refine ki_text (c :: b) r (by omega) rfl rfl rfl rfl ?_ | refine ki_text (c :: b) (rdT (c :: b) r).2 (by omega) rfl rfl rfl rfl ?_); simp -implicitDefEqProofs (maxSteps := 3000000) only [go_sem, reduceCtorEq])
          refine next_data (i + 1, es ++ [(rdL (c :: b) r).1], (rdL (c :: b) r).2) ?_ ⟨?_, ?_⟩ ?_
          · rw [wrap_succ (by simp only [LEN]; omega)]
            simp [rdL]
          · simp only; omega
          · simp only; rw [rdLs_snoc, ← i2]
          · simp only; omega
        · obtain rfl : i = k := by omega
          have hle : r.1 ≤ (c :: b).length := by have := rdLs_le (t := c :: b) (k := i) (r := r1) (by have := rdV_le (t := c :: b) (m := 4) (r := (1, false)) (by simp); rw [hkr] at this; exact this); rw [← i2] at this; exact this
          rw [← i2]
          simp -implicitDefEqProofs (maxSteps := 3000000) only [go_sem, reduceCtorEq]
          cases hb : r.2
          · simp -implicitDefEqProofs (maxSteps := 3000000) only [go_sem, reduceCtorEq, List.length_cons]
            by_cases he : (r.1 : Int) = ((b.length + 1 : Nat) : Int)
            · have de := decide_eq_true he
              simp -implicitDefEqProofs (maxSteps := 3000000) only [go_sem, reduceCtorEq, de]
              refine ki_NodeOk (leafOf es) (by simp [leafOf, LEN]; omega) (by simp [leafOf, LEN]; omega) (by simp [leafOf, LEN]) (ls := [5, 6, 7]) (by simp -implicitDefEqProofs (maxSteps := 3000000) only [go_sem, reduceCtorEq]; try rfl) ?_
              by_cases hn : nodeOk (leafOf es)
              · have dn := decide_eq_true hn
                simp -implicitDefEqProofs (maxSteps := 3000000) only [go_sem, reduceCtorEq, dn]
                rw [runEnd, if_pos ⟨hb, by simp only [List.length_cons]; omega, hn⟩]
                rfl
              · have dn := decide_eq_false hn
                simp -implicitDefEqProofs (maxSteps := 3000000) only [go_sem, reduceCtorEq, dn]
                rw [runEnd, if_neg (fun h => hn h.2.2)]
                rfl
            · have de := decide_eq_false he
              simp -implicitDefEqProofs (maxSteps := 3000000) only [go_sem, reduceCtorEq, de]
              rw [runEnd, if_neg (fun h => he (by have := h.2.1; simp only [List.length_cons] at this; omega))]
              rfl
          · simp -implicitDefEqProofs (maxSteps := 3000000) only [go_sem, reduceCtorEq]
            rw [runEnd, if_neg (fun h => by rw [hb] at h; cases h.1)]
            rfl
      · have dc := decide_eq_false hc
        rw [if_neg hc]
        have hr9 : (decide (((c.toNat : Nat) : Int) = 98)) = decide (c.toNat = 98) := decide_eq_decide.2 (by omega)
        have hst : runStart c = (1, !decide (c.toNat = 98)) := by
          have : decide (c.toNat ≠ 108) = true := decide_eq_true fun h => hc (u8_eq.1 (h.trans rfl))
          simp [runStart, this]
        simp -implicitDefEqProofs (maxSteps := 3000000) only [go_sem, reduceCtorEq, hne, hg, hr0, hr9, dc, List.length_cons]
        repeat ((first | refine req (by first | omega | assumption | exact commP_of (by kernel_rfl) | (simp only [LEN, List.length_append, List.length_cons, List.length_nil]; omega) | (simp [D.one]; omega) | (simp [D.one]; done)) ?_ | refine ki_num (c :: b) 4 (1, !decide (c.toNat = 98)) (by omega) rfl rfl rfl rfl ?_); simp -implicitDefEqProofs (maxSteps := 3000000) only [go_sem, reduceCtorEq, hne, hg, hr0, hr9, dc, List.length_cons])
        have hk4 : (rdV (c :: b) 4 (1, !decide (c.toNat = 98))).1 ≤ 4 := rdV_most (m := 4)
        rw [runBranch, hst]
        generalize hkr : rdV (c :: b) 4 (1, !decide (c.toNat = 98)) = kr at hk4 ⊢
        obtain ⟨k, r1⟩ := kr
        simp only at hk4 ⊢
        refine loop_data (α := Nat × List (List UInt8 × Int) × (Nat × Bool)) (fun x => ⟨[(2, .ref 0 0), (4, .d (.str (c :: b))), (6, .ref 4 0), (7, .ref 8 0), (36, .d (.int .i64 k)), (37, .d (.int .i64 x.1))],
            [(0, some (.box [.d (.bool false), .own 1 0 0, .own 2 0 0, .own 3 0 0])), (1, some (.arr 1 [])), (2, some (.arr 1 [])), (3, some (.arr 1 [])),
             (4, some (.box [.d (.bool false), .own 5 0 (x.2.1.map (·.1)).length, .own 6 0 0, .own 7 0 (x.2.1.map (·.2)).length])), (5, some (.arr 1 (strs (x.2.1.map (·.1))))), (6, some (.arr 1 [])), (7, some (.arr 1 (ints (x.2.1.map (·.2))))),
             (8, some (.box [.d (.str (c :: b)), .d (.int .i64 x.2.2.1), .d (.bool x.2.2.2)]))]⟩)
          (fun x => x.1 ≤ k ∧ x.2 = rdBs (c :: b) 40 x.1 r1) (fun x => k - x.1) (0, [], r1) rfl ⟨Nat.zero_le _, rfl⟩ ?_
        rintro ⟨i, es, r⟩ ⟨i1, i2⟩
        simp only at i1 i2
        have hlen : es.length = i := by have := rdBs_len (t := c :: b) (most := 40) (k := i) (r := r1); rw [← i2] at this; exact this
        simp -implicitDefEqProofs (maxSteps := 3000000) only [go_sem, reduceCtorEq]
        (first | (refine way_dec (fun h5 => ?_) (fun h5 => ?_)) | (refine way_ndec (fun h5 => ?_) (fun h5 => ?_)) | (refine wayT_dec (fun h5 => ?_) (fun h5 => ?_)) | (refine wayF_dec (fun h5 => ?_) (fun h5 => ?_)) | (refine wayT_ndec (fun h5 => ?_) (fun h5 => ?_)) | (refine wayF_ndec (fun h5 => ?_) (fun h5 => ?_)) | (refine way_not (fun h5 => ?_) (fun h5 => ?_)) | (refine way (fun h5 => ?_) (fun h5 => ?_)) | (refine wayT (fun h5 => ?_) (fun h5 => ?_)) | (refine wayF (fun h5 => ?_) (fun h5 => ?_)))
        · simp -implicitDefEqProofs (maxSteps := 3000000) only [go_sem, reduceCtorEq]
          repeat ((first | refine req (by first | omega | assumption | exact commP_of (by kernel_rfl) | (simp only [LEN, List.length_append, List.length_cons, List.length_nil]; omega) | (simp [D.one]; omega) | (simp [D.one]; done)) ?_ | refine ki_text (c :: b) r (by omega) rfl rfl rfl rfl ?_ | refine ki_num (c :: b) 40 (rdT (c :: b) r).2 (by omega) rfl rfl rfl rfl ?_); simp -implicitDefEqProofs (maxSteps := 3000000) only [go_sem, reduceCtorEq])
          refine next_data (i + 1, es ++ [(rdB (c :: b) 40 r).1], (rdB (c :: b) 40 r).2) ?_ ⟨?_, ?_⟩ ?_
          · rw [wrap_succ (by simp only [LEN]; omega)]
            simp [rdB]
          · simp only; omega
          · simp only; rw [rdBs_snoc, ← i2]
          · simp only; omega
        · obtain rfl : i = k := by omega
          rw [← i2]
          simp -implicitDefEqProofs (maxSteps := 3000000) only [go_sem, reduceCtorEq]
          cases hb : r.2
          · simp -implicitDefEqProofs (maxSteps := 3000000) only [go_sem, reduceCtorEq, List.length_cons]
            by_cases he : (r.1 : Int) = ((b.length + 1 : Nat) : Int)
            · have de := decide_eq_true he
              simp -implicitDefEqProofs (maxSteps := 3000000) only [go_sem, reduceCtorEq, de]
              refine ki_NodeOk (branchOf es) (by simp [branchOf, LEN]; omega) (by simp [branchOf, LEN]) (by simp [branchOf, LEN]; omega) (ls := [5, 6, 7]) (by simp -implicitDefEqProofs (maxSteps := 3000000) only [go_sem, reduceCtorEq]; try rfl) ?_
              by_cases hn : nodeOk (branchOf es)
              · have dn := decide_eq_true hn
                simp -implicitDefEqProofs (maxSteps := 3000000) only [go_sem, reduceCtorEq, dn]
                rw [runEnd, if_pos ⟨hb, by simp only [List.length_cons]; omega, hn⟩]
                rfl
              · have dn := decide_eq_false hn
                simp -implicitDefEqProofs (maxSteps := 3000000) only [go_sem, reduceCtorEq, dn]
                rw [runEnd, if_neg (fun h => hn h.2.2)]
                rfl
            · have de := decide_eq_false he
              simp -implicitDefEqProofs (maxSteps := 3000000) only [go_sem, reduceCtorEq, de]
              rw [runEnd, if_neg (fun h => he (by have := h.2.1; simp only [List.length_cons] at this; omega))]
              rfl
          · simp -implicitDefEqProofs (maxSteps := 3000000) only [go_sem, reduceCtorEq]
            rw [runEnd, if_neg (fun h => by rw [hb] at h; cases h.1)]
            rfl
theorem ki_ReadNode {h : Heap} {tb : Nat} {K : OK} {args : List V} (t : List UInt8) (ht : t.length ≤ 4611686018427387904) (hg : toDs h args = some ([.str t], []))
    (hk : K (renV (bk tb ([])) (nodeV (readNode t))) (updN tb ([]) ([]))) : callVC Go.Proofs.Try.prog h tb 78 args K :=
  call_free hg (ci_ReadNode t ht) rfl (.inl rfl) hk
end Go.Rx
