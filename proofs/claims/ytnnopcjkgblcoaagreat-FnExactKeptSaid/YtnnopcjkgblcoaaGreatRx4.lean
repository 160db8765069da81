/-
  Part 4: an evaluator over plain data of the model's code with its proof, plain laws on lists and numbers, and contracts of functions of the program; each lemma names its conditions.
-/
import Derived.Test.YtnnopcjkgblcoaaGreatRx3
import Derived.ProofKit
import Derived.Deep.SlicePairs
import Derived.Test.YtnnopcjkgblcoaaGreatProg

set_option linter.unusedSimpArgs false
set_option linter.unusedVariables false

namespace Go.Rx
open Go

theorem rdLs_badle {t : List UInt8} {r : Nat × Bool} (hr : r.1 ≤ t.length) : ∀ {m i : Nat}, i ≤ m → sfx t (rdLs t i r).2 = none → sfx t (rdLs t m r).2 = none
  | 0, i, hi, h => by obtain rfl : i = 0 := by omega
                      exact h
  | m + 1, i, hi, h => by
    by_cases he : i = m + 1
    · subst he; exact h
    · have h1 := rdLs_badle hr (m := m) (by omega) h
      rw [rdLs_snoc]
      have := rdLs_bad (k := 1) (rdLs_le (k := m) hr) h1
      exact this
theorem rdBs_badle {t : List UInt8} {most : Nat} {r : Nat × Bool} (hr : r.1 ≤ t.length) : ∀ {m i : Nat}, i ≤ m → sfx t (rdBs t most i r).2 = none → sfx t (rdBs t most m r).2 = none
  | 0, i, hi, h => by obtain rfl : i = 0 := by omega
                      exact h
  | m + 1, i, hi, h => by
    by_cases he : i = m + 1
    · subst he; exact h
    · have h1 := rdBs_badle hr (m := m) (by omega) h
      rw [rdBs_snoc]
      have := rdBs_bad (most := most) (k := 1) (rdBs_le (most := most) (k := m) hr) h1
      exact this
theorem sfx_none {t : List UInt8} {r : Nat × Bool} : sfx t r = none ↔ r.2 = true := by unfold sfx; split <;> simp_all

theorem loose_leaf {c : UInt8} {b : List UInt8} (hc : c = 108) : looseNode c b =
    if (rdLs (c :: b) (min (rdV (c :: b) 1000000000 (1, false)).1 10) (rdV (c :: b) 1000000000 (1, false)).2).2.2 = true then none
    else some (leafOf (rdLs (c :: b) (min (rdV (c :: b) 1000000000 (1, false)).1 10) (rdV (c :: b) 1000000000 (1, false)).2).1) := by
  have hle : (1 : Nat) ≤ (c :: b).length := by simp
  have hv := rdV_sfx (t := c :: b) (most := 1000000000) (r := (1, false)) hle
  have hle2 : (rdV (c :: b) (1000000000 : Nat) (1, false)).2.1 ≤ (c :: b).length := rdV_le hle
  have e0 : rdV (c :: b) 1000000000 (1, false) = rdV (c :: b) (1000000000 : Nat) (1, false) := rfl
  rw [e0]
  have hs : sfx (c :: b) (1, false) = some b := rfl
  rw [hs] at hv
  simp only at hv
  unfold looseNode
  cases h1 : rv b with
  | none =>
    rw [h1] at hv
    simp only at hv
    rw [if_pos (sfx_none.1 (rdLs_bad hle2 hv.2))]
  | some p =>
    obtain ⟨k, l⟩ := p
    rw [h1] at hv
    simp only at hv
    rw [if_pos (rv_iff.1 h1).1] at hv
    simp only
    rw [if_pos hc, hv.1]
    have h2 := rdLs_pl (k := min k 10) hle2 hv.2
    cases h3 : pl (min k 10) l with
    | none => rw [h3] at h2; rw [if_pos (sfx_none.1 h2)]; rfl
    | some p =>
      obtain ⟨es, rest⟩ := p
      rw [h3] at h2
      simp only at h2
      rw [if_neg (fun e => by rw [sfx_none.2 e] at h2; cases h2.2), h2.1]; rfl
theorem loose_branch {c : UInt8} {b : List UInt8} (hc : ¬ c = 108) : looseNode c b =
    if (rdBs (c :: b) 1000000000 (min (rdV (c :: b) 1000000000 (1, false)).1 10) (rdV (c :: b) 1000000000 (1, false)).2).2.2 = true then none
    else some (branchOf (rdBs (c :: b) 1000000000 (min (rdV (c :: b) 1000000000 (1, false)).1 10) (rdV (c :: b) 1000000000 (1, false)).2).1) := by
  have hle : (1 : Nat) ≤ (c :: b).length := by simp
  have hv := rdV_sfx (t := c :: b) (most := 1000000000) (r := (1, false)) hle
  have hle2 : (rdV (c :: b) (1000000000 : Nat) (1, false)).2.1 ≤ (c :: b).length := rdV_le hle
  have e0 : rdV (c :: b) 1000000000 (1, false) = rdV (c :: b) (1000000000 : Nat) (1, false) := rfl
  have e1 : ∀ k r, rdBs (c :: b) 1000000000 k r = rdBs (c :: b) (1000000000 : Nat) k r := fun _ _ => rfl
  rw [e0, e1]
  have hs : sfx (c :: b) (1, false) = some b := rfl
  rw [hs] at hv
  simp only at hv
  unfold looseNode
  cases h1 : rv b with
  | none =>
    rw [h1] at hv
    simp only at hv
    rw [if_pos (sfx_none.1 (rdBs_bad (most := 1000000000) hle2 hv.2))]
  | some p =>
    obtain ⟨k, l⟩ := p
    rw [h1] at hv
    simp only at hv
    rw [if_pos (rv_iff.1 h1).1] at hv
    simp only
    rw [if_neg hc, hv.1]
    have h2 := rdBs_pb (most := 1000000000) (k := min k 10) hle2 hv.2
    cases h3 : pb 1000000000 (min k 10) l with
    | none => rw [h3] at h2; rw [if_pos (sfx_none.1 h2)]; rfl
    | some p =>
      obtain ⟨es, rest⟩ := p
      rw [h3] at h2
      simp only at h2
      rw [if_neg (fun e => by rw [sfx_none.2 e] at h2; cases h2.2), h2.1]; rfl
theorem readNode_none {t : List UInt8} (h : unsealB t = none) : readNode t = none := by rw [readNode, h]
theorem readNode_short {t : List UInt8} {s : List UInt8} (h : unsealB t = some s) (hs : s.length < 2) : readNode t = none := by
  rw [readNode, h]
  match s, hs with
  | [], _ => rfl
  | [c], _ =>
    simp only [readBody, parseNode]
    split
    · rename_i n hp
      split at hp
      · cases hp
      · cases hp
    · rfl

/-- As far as place i. -/
def okUp (n : GNode) (i : Nat) : Prop := ascK (n.fKeys.take i) ∧ (∀ k ∈ n.fKeys.take i, k.length ≤ 24) ∧
  if n.fLeaf = true then ∀ v ∈ n.fVals.take i, v.length ≤ 24 else (∀ k ∈ n.fKids.take i, 2 ≤ k ∧ k ≤ 39) ∧ (n.fKids.take i).Nodup
end Go.Rx

namespace Go.Rx
open Go

/-! how much a walk adds -/
theorem kidsI_len {rec : Int → Tr → Tr} {L : Tr → Nat} (hL : ∀ t o, L (t.ord o) = L t) {g : Nat} (hr : ∀ c t, L (rec c t) + 1 ≤ L t + g) {first : Nat} : ∀ {l : List (List UInt8 × Int)} {t : Tr},
    L (kidsI rec first l t) ≤ L t + l.length * (g - 1)
  | [], t => by simp [kidsI]
  | (k, c) :: l, t => by
    have h1 := hr c t
    rw [kidsI]
    split
    · simp only [List.length_cons, Nat.succ_mul]; omega
    · have h2 := kidsI_len hL hr (first := first) (l := l) (t := (rec c t).ord ((rec c t).order && (!keyBelow ((rec c t).pairs.drop t.pairs.length) k && !keyFrom (((rec c t).pairs.take t.pairs.length).drop first) k)))
      rw [hL] at h2
      simp only [List.length_cons, Nat.succ_mul]; omega
theorem kids_four {t : List UInt8} {n : GNode} (h : readNode t = some n) : (n.fKeys.zip n.fKids).length ≤ 4 ∧ n.fKeys.length ≤ 4 := by
  have := (readNode_iff.1 h).1.2.1
  simp only [List.length_zip]; omega
theorem mul4 {n g : Nat} (h : n ≤ 4) : n * g ≤ 4 * g := Nat.mul_le_mul_right g h
theorem down_len {d : GDisk} {L : Tr → Nat} (hL : ∀ t o, L (t.ord o) = L t) (hB : ∀ t b, L { t with bad := b } = L t)
    (h1 : ∀ t p, L { t with pages := t.pages ++ [p] } ≤ L t + 1) (h2 : ∀ t p e (q : List GPair), q.length ≤ 4 → L { t with pages := t.pages ++ [p], deeps := t.deeps ++ [e], pairs := t.pairs ++ q } ≤ L t + 4) :
    ∀ {f : Nat} {page : Int} {t : Tr}, L (downI d f page t) + 1 ≤ L t + 2 * 4 ^ f
  | 0, page, t => by rw [downI, hB]; omega
  | f + 1, page, t => by
    have hp : 1 ≤ 4 ^ f := Nat.one_le_pow _ _ (by omega)
    rw [downI, Nat.pow_succ]
    split
    · rw [hB]; omega
    · rename_i n hn
      obtain ⟨k4, k5⟩ := kids_four hn
      split
      · rw [hB]; omega
      · split
        · have := h2 t page (8 - (f : Int)) (pairsOf n) (by simp only [pairsOf, List.length_map, List.length_zip]; omega)
          omega
        · have h3 := kidsI_len hL (rec := downI d f) (fun c t => down_len hL hB h1 h2 (f := f) (page := c) (t := t)) (first := t.pairs.length) (l := n.fKeys.zip n.fKids) (t := ⟨t.pages ++ [page], t.pairs, t.deeps, t.order, t.bad⟩)
          have h4 := h1 t page
          have h5 := mul4 (g := 2 * 4 ^ f - 1) k4
          omega
theorem down_pages {d : GDisk} {f : Nat} {page : Int} {t : Tr} : (downI d f page t).pages.length + 1 ≤ t.pages.length + 2 * 4 ^ f :=
  down_len (L := fun t => t.pages.length) (fun _ _ => rfl) (fun _ _ => rfl) (fun t p => by simp) (fun t p e q h => by simp)
theorem down_pairs {d : GDisk} {f : Nat} {page : Int} {t : Tr} : (downI d f page t).pairs.length + 1 ≤ t.pairs.length + 2 * 4 ^ f :=
  down_len (L := fun t => t.pairs.length) (fun _ _ => rfl) (fun _ _ => rfl) (fun t p => by simp) (fun t p e q h => by simp; omega)
theorem down_deeps {d : GDisk} {f : Nat} {page : Int} {t : Tr} : (downI d f page t).deeps.length + 1 ≤ t.deeps.length + 2 * 4 ^ f :=
  down_len (L := fun t => t.deeps.length) (fun _ _ => rfl) (fun _ _ => rfl) (fun t p => by simp) (fun t p e q h => by simp)
theorem kids_grow {rec : Int → Tr → Tr} (hr : ∀ c t, t.pairs.length ≤ (rec c t).pairs.length) {first : Nat} : ∀ {l : List (List UInt8 × Int)} {t : Tr}, t.pairs.length ≤ (kidsI rec first l t).pairs.length
  | [], t => Nat.le_refl _
  | (k, c) :: l, t => by
    rw [kidsI]
    split
    · exact hr c t
    · refine Nat.le_trans (hr c t) ?_
      have := kids_grow hr (first := first) (l := l) (t := (rec c t).ord ((rec c t).order && (!keyBelow ((rec c t).pairs.drop t.pairs.length) k && !keyFrom (((rec c t).pairs.take t.pairs.length).drop first) k)))
      exact this
theorem down_grow {d : GDisk} : ∀ {f : Nat} {page : Int} {t : Tr}, t.pairs.length ≤ (downI d f page t).pairs.length
  | 0, _, _ => Nat.le_refl _
  | f + 1, page, t => by
    rw [downI]
    split
    · exact Nat.le_refl _
    · split
      · exact Nat.le_refl _
      · split
        · simp
        · exact kids_grow (fun c t => down_grow) (t := ⟨t.pages ++ [page], t.pairs, t.deeps, t.order, t.bad⟩)
def room (f : Nat) (t : Tr) : Prop := t.pages.length + 2 * 4 ^ f ≤ 1000000000 ∧ t.pairs.length + 2 * 4 ^ f ≤ 1000000000 ∧ t.deeps.length + 2 * 4 ^ f ≤ 1000000000
theorem pairs_snoc {n : GNode} {i : Nat} {p q : List UInt8} (hp : n.fKeys[i]? = some p) (hq : n.fVals[i]? = some q) : (pairsOf n).take (i + 1) = (pairsOf n).take i ++ [⟨p, q⟩] := by
  rw [take_snoc (p := (⟨p, q⟩ : GPair))]
  simp only [pairsOf, List.getElem?_map, zip_at hp hq]; rfl
end Go.Rx

namespace Go.Rx
open Go
theorem kidsS_len {rec : Int → List UInt8 → List UInt8 → Bool → Al → Al} {L : Al → Nat} {g : Nat} (hr : ∀ c lo hi m a, L (rec c lo hi m a) + 1 ≤ L a + g) {low high : List UInt8} {has : Bool} : ∀ {l : List (List UInt8 × Int)} {a : Al},
    L (kidsS rec low high has l a) ≤ L a + l.length * (g - 1)
  | [], a => by simp [kidsS]
  | (k, c) :: l, a => by
    rw [kidsS]
    have h1 := hr c (lowS low k) (highS high has l) (moreS high has l) a
    have h2 := kidsS_len hr (low := low) (high := high) (has := has) (l := l) (a := rec c (lowS low k) (highS high has l) (moreS high has l) a)
    simp only [List.length_cons, Nat.succ_mul]; omega
theorem walk_len {d : GDisk} {L : Al → Nat} (hB : ∀ a b, L { a with bad := b } = L a)
    (h1 : ∀ a p, L { a with pages := a.pages ++ [p] } ≤ L a + 1) (h2 : ∀ (a : Al) p e (q : List GPair) lo, q.length ≤ 4 → L ⟨a.pairs ++ q, a.pages ++ [p], a.deeps ++ [e], a.bad, lo⟩ ≤ L a + 4) :
    ∀ {f : Nat} {page : Int} {low high : List UInt8} {has : Bool} {a : Al}, L (walkS d f page low high has a) + 1 ≤ L a + 2 * 4 ^ f
  | 0, page, _, _, _, a => by rw [walkS, hB]; omega
  | f + 1, page, low, high, has, a => by
    have hp : 1 ≤ 4 ^ f := Nat.one_le_pow _ _ (by omega)
    rw [walkS, Nat.pow_succ]
    split
    · rw [hB]; omega
    · rename_i n hn
      obtain ⟨k4, k5⟩ := kids_four hn
      split
      · rw [hB]; omega
      · split
        · rw [leafS_eq]
          have := h2 a page (7 - (f : Int)) ((n.fKeys.zip n.fVals).map pairOf) (a.loose || (n.fKeys.zip n.fVals).any fun e => bLess e.1 low || (has && !bLess e.1 high)) (by simp only [List.length_map, List.length_zip]; omega)
          simp only
          omega
        · have h3 := kidsS_len (L := L) (rec := walkS d f) (fun c lo hi m a => walk_len hB h1 h2) (low := low) (high := high) (has := has) (l := n.fKeys.zip n.fKids) (a := ⟨a.pairs, a.pages ++ [page], a.deeps, a.bad, a.loose⟩)
          have h4 := h1 a page
          have h5 := mul4 (g := 2 * 4 ^ f - 1) k4
          omega
theorem walk_pages {d : GDisk} {f : Nat} {page : Int} {low high : List UInt8} {has : Bool} {a : Al} : (walkS d f page low high has a).pages.length + 1 ≤ a.pages.length + 2 * 4 ^ f :=
  walk_len (L := fun a => a.pages.length) (fun _ _ => rfl) (fun a p => by simp) (fun a p e q lo h => by simp)
theorem walk_pairs {d : GDisk} {f : Nat} {page : Int} {low high : List UInt8} {has : Bool} {a : Al} : (walkS d f page low high has a).pairs.length + 1 ≤ a.pairs.length + 2 * 4 ^ f :=
  walk_len (L := fun a => a.pairs.length) (fun _ _ => rfl) (fun a p => by simp) (fun a p e q lo h => by simp; omega)
theorem walk_deeps {d : GDisk} {f : Nat} {page : Int} {low high : List UInt8} {has : Bool} {a : Al} : (walkS d f page low high has a).deeps.length + 1 ≤ a.deeps.length + 2 * 4 ^ f :=
  walk_len (L := fun a => a.deeps.length) (fun _ _ => rfl) (fun a p => by simp) (fun a p e q lo h => by simp)
def roomS (f : Nat) (a : Al) : Prop := a.pages.length + 2 * 4 ^ f ≤ 1000000000 ∧ a.pairs.length + 2 * 4 ^ f ≤ 1000000000 ∧ a.deeps.length + 2 * 4 ^ f ≤ 1000000000
def leaf1 (low high : List UInt8) (has : Bool) (k v : List UInt8) (a : Al) : Al := ⟨a.pairs ++ [⟨k, v⟩], a.pages, a.deeps, a.bad, a.loose || (bLess k low || (has && !bLess k high))⟩
theorem leafS_cons {low high : List UInt8} {has : Bool} {k v : List UInt8} {l : List (List UInt8 × List UInt8)} {a : Al} : leafS low high has ((k, v) :: l) a = leafS low high has l (leaf1 low high has k v a) := rfl
end Go.Rx

namespace Go.Rx
open Go Go.RowKit Go.ChangeShapes Go.WideShapes Go.ChangeAt

section
variable {H : Type} {enc : TypeId × Value → H} {P : Program}

theorem trodAll_below (hl : laidOutB P = true) {W W' : World} (hb : Below W.heap.size W W') : ∀ {ts : List TypeId} {vs : List Value} {ds : List (DataW H)} {ps : List MemPlace},
    (∀ t ∈ ts, P.readableRec t = true ∧ t < P.types.size) → DataW.TrodAll enc P W 0 (fun _ => true) true ts vs ds ps → (∀ x ∈ ps, x.block < W.heap.size) →
    DataW.TrodAll enc P W' 0 (fun b => decide (b < W.heap.size)) true ts vs ds ps
  | [], [], [], ps, _, h, _ => h
  | [], [], _ :: _, _, _, h, _ => h.elim
  | [], _ :: _, _, _, _, h, _ => h.elim
  | _ :: _, [], _, _, _, h, _ => h.elim
  | _ :: _, _ :: _, [], _, _, h, _ => h.elim
  | t :: ts, v :: vs, d :: ds, ps, ht, ⟨p, q, h1, h2, e⟩, hlt =>
    ⟨p, q, Below.trod hl (ht t (by simp)).1 (ht t (by simp)).2 h1 hb (fun x hx => hlt x (by rw [e]; simp [hx])),
      trodAll_below hl hb (fun t' h' => ht t' (by simp [h'])) h2 (fun x hx => hlt x (by rw [e]; simp [hx])), e⟩

/-- A law whose contract says: true. -/
theorem law_calls {n : FuncId} {f : Func} {s : ChangeSpec} {W : World} {args : Array Value} {ds : List (DataW H)} {before : List MemPlace} {t : TypeId} {xs : List D} {outs : List V}
    (hl : laidOutB P = true) (hts : ∀ t ∈ f.params.toList, P.readableRec t = true ∧ t < P.types.size) (hres : f.resultTypes = #[t]) (hbool : P.underlying t = some .bool) (hvars : s.vars = [])
    (hr : (s.fn H ds).results = [.lit (.bool true)]) (ha : (s.fn H ds).args = ds) (hv : (s.fn H ds).vars = [])
    (hW : DataW.Whole enc P f.params.toList s.vars false W args.toList ds [] before)
    (hc : CallOK P n (xs.map .d) [] outs (.d (.bool true)) [])
    (hlen : xs.length = args.toList.length) (hx : ∀ (i : Nat) x v, xs[i]? = some x → args.toList[i]? = some v → DRel W (fun b => b < W.heap.size) x v) :
    Calls P n args W fun e W' => ∃ v, e = .returned v ∧ s.post enc P f false true false false W args v W' := by
  have h0 := hc.2 W args.toList (fun _ => none) (fun b => b < W.heap.size)
    ⟨fun n n' b h => absurd rfl h, fun n b h => absurd rfl h, fun n b h => absurd rfl h, fun b h => h, fun n o h => by cases h⟩ (by simpa using hlen) (fun i x v h1 h2 => by
      rw [List.getElem?_map] at h1
      cases hxi : xs[i]? with
      | none => rw [hxi] at h1; cases h1
      | some y => rw [hxi] at h1; cases h1; exact .d (hx i y v hxi h2))
  have h0' : Calls P n args W _ := h0
  refine h0'.mono fun e W' ⟨v, lam', ok', he, hf, _, hrel, _⟩ => ?_
  cases hrel with | d hd =>
  cases hd with | bool =>
  have hb : Below W.heap.size W W' := ⟨hf.os, hf.tape, hf.output, hf.size, fun k hk => hf.block k hk (fun ⟨n, h1, _⟩ => h1 rfl)⟩
  refine ⟨_, he, ds, [], before, [], before, [], hW, ?_, ?_, ?_, hb.frame _, fun h => by cases h⟩
  · rw [hres, List.append_nil, hr]
    exact trodAll_mk1 (shut_bool hbool true)
  · obtain ⟨p, q, h1, h2, rfl, _⟩ := hW
    rw [hvars] at h2
    obtain ⟨_, rfl⟩ := trodVars_none h2
    rw [List.append_nil, ha, List.append_nil]
    refine trodAll_below hl hb hts h1 fun x hx => ?_
    exact DataW.TrodAll.lt h1 x hx
  · rw [hvars, List.append_nil, hv]; rfl


/-! what is handed in, read as data, by its type -/
def Opn (P : Program) (enc : TypeId × Value → H) (t : TypeId) {α : Type} (cells : α → List D) (ok : α → Prop) : Prop :=
  ∀ (W : World) (n : Nat) (vs : List Value) (y : DataW H × List MemPlace), DataW.trod enc P W 0 (fun _ => true) true n t vs = some y →
    ∃ a, Rel2 (DRel W (fun b => b < W.heap.size)) (cells a) vs ∧ ok a

theorem rel2_one {W : World} {ok : Nat → Prop} {d : D} {v : Value} (h : DRel W ok d v) : Rel2 (DRel W ok) [d] [v] := Rel2.cons h (Rel2.nil _)

theorem opn_int {t : TypeId} {k : IntKind} (ht : P.underlying t = some (.int k)) : Opn P enc t (fun n : Int => [.int k n]) (fun _ => True) := fun W n vs y h => by
  obtain ⟨x, rfl, _, _⟩ := DataW.trod_int ht h
  exact ⟨x, rel2_one (.int k x), trivial⟩
theorem opn_byte {t : TypeId} (ht : P.underlying t = some (.int .u8)) : Opn P enc t byteCell (fun _ => True) := fun W n vs y h => by
  obtain ⟨k, rfl, _, hw⟩ := DataW.trod_int ht h
  simp only [Lit.wf, Bool.and_eq_true, decide_eq_true_eq] at hw
  have h1 : IntKind.u8.min = 0 := rfl
  have h2 : IntKind.u8.max = 255 := rfl
  rw [h1, h2] at hw
  have : k = ((UInt8.ofNat k.toNat).toNat : Int) := by simp; omega
  refine ⟨UInt8.ofNat k.toNat, ?_, trivial⟩
  unfold byteCell
  rw [← this]
  exact rel2_one (.int _ _)
theorem opn_bool {t : TypeId} (ht : P.underlying t = some .bool) : Opn P enc t (fun b : Bool => [.bool b]) (fun _ => True) := fun W n vs y h => by
  obtain ⟨b, rfl, _⟩ := DataW.trod_bool ht h
  exact ⟨b, rel2_one (.bool b), trivial⟩
theorem opn_str {t : TypeId} (ht : P.underlying t = some .string) : Opn P enc t (fun s : List UInt8 => [.str s]) (fun s => s.length ≤ LEN) := fun W n vs y h => by
  obtain ⟨s, rfl, _, hs⟩ := DataW.trod_string ht h
  have hmax : maxLen = LEN := rfl
  exact ⟨s.data.toList, rel2_one (.str _ (hmax ▸ (by simpa using hs))), hmax ▸ (by simpa using hs)⟩

theorem opn_slice {t e : TypeId} {m : Nat} {α : Type} [Inhabited α] {cells : α → List D} {ok : α → Prop} (ht : P.underlying t = some (.slice e)) (ce : P.cellsOf e = m) (hm : 0 < m) (hcl : ∀ a, (cells a).length = m) (ho : Opn P enc e cells ok) :
    Opn P enc t (fun l : List α => [.sl (l.map cells)]) (fun l => l.length ≤ LEN ∧ ∀ a ∈ l, ok a) := fun W n vs y h => by
  rcases Go.Deep.open_slice ht h with ⟨rfl, _⟩ | ⟨a, len, cap, k, n', D0, Pl, rfl, _, hl, hmx, hk, _, hx⟩
  · exact ⟨[], rel2_one (.sl0 none 0), by simp, by simp⟩
  have hmax : maxLen = LEN := rfl
  simp only [if_true] at hk
  subst hk
  by_cases hlen : len = 0
  · subst hlen
    exact ⟨[], rel2_one (.sl0 _ _), by simp, by simp⟩
  have each : ∀ i, i < k → ∃ q : α × List Value, W.cells? 0 (a.add (i * m)) m = some q.2 ∧ Rel2 (DRel W (fun b => b < W.heap.size)) (cells q.1) q.2 ∧ ok q.1 := fun i hi => by
    obtain ⟨cs', g1, g2⟩ := hx i hi
    rw [ce] at g1
    obtain ⟨b, hb, hob⟩ := ho W n' cs' _ g2
    exact ⟨(b, cs'), g1, hb, hob⟩
  obtain ⟨q, hq⟩ := Go.Deep.choose_lt each
  obtain ⟨b, o, sp⟩ := a
  have hfirst : W.cell? ⟨b, o, sp⟩ = (q 0).2[0]? := by
    have := (World.cells?_some (hq 0 (by omega)).1).2.2 0 hm
    rw [Nat.zero_mul] at this
    simpa [Addr.add] using this
  have hq0 := (World.cells?_some (hq 0 (by omega)).1).2.1
  have hsome : ∃ v, (q 0).2[0]? = some v := ⟨(q 0).2[0]'(by omega), by simp⟩
  obtain ⟨v0, hv0⟩ := hsome
  rw [hv0] at hfirst
  have hsp : sp = none := by
    unfold World.cell? at hfirst
    split at hfirst
    · cases sp with
      | none => rfl
      | some x => simp at hfirst
    · cases hfirst
  subst hsp
  have hblt : b < W.heap.size := by
    rcases Nat.lt_or_ge b W.heap.size with h | h
    · exact h
    · simp [World.cell?, h] at hfirst
  let xs : List α := (List.range len).map fun i => (q i).1
  have hxl : xs.length = len := by simp [xs]
  have hget : ∀ (i : Nat) e, (xs.map cells)[i]? = some e → i < len ∧ e = cells (q i).1 := fun i e hi => by
    simp only [xs, List.map_map, List.getElem?_map] at hi
    rcases Nat.lt_or_ge i len with hil | hil
    · rw [List.getElem?_range hil] at hi
      simp only [Option.map_some, Option.some.injEq, Function.comp_apply] at hi
      exact ⟨hil, hi.symm⟩
    · rw [List.getElem?_eq_none (by simpa using hil)] at hi; cases hi
  have hcell : ∀ i, i < len → ∀ j, j < m → W.cell? ⟨b, o + (i * m + j), none⟩ = (q i).2[j]? := fun i hi j hj => by
    have := (World.cells?_some (hq i (by omega)).1).2.2 j hj
    rw [Go.Deep.add_add, add_plain] at this
    exact this
  have hdiv : ∀ i j, j < m → (i * m + j) / m = i ∧ (i * m + j) % m = j := fun i j hj => by
    constructor
    · rw [Nat.mul_comm, Nat.mul_add_div hm, Nat.div_eq_of_lt hj, Nat.add_zero]
    · rw [Nat.mul_comm, Nat.mul_add_mod, Nat.mod_eq_of_lt hj]
  have hjm : ∀ (i : Nat) e (j : Nat) d, (xs.map cells)[i]? = some e → e[j]? = some d → j < m := fun i e j d hi hj => by
    obtain ⟨_, rfl⟩ := hget i e hi
    have := (List.getElem?_eq_some_iff.1 hj).1
    rw [hcl] at this; exact this
  refine ⟨xs, rel2_one ?_, by rw [hxl]; omega, fun x hx' => ?_⟩
  · have key := DRel.sl (w := W) (ok := fun b => b < W.heap.size) (xs.map cells) m b o k (fun k => ((q (k / m)).2[k % m]?).getD undef)
      (by rw [List.length_map, hxl]; exact hl) (by rw [List.length_map, hxl]; omega) hblt (fun e he => by
        obtain ⟨x, _, rfl⟩ := List.mem_map.1 he; exact hcl x) (fun i e j d hi hj => by
        have hj' := hjm i e j d hi hj
        obtain ⟨hil, rfl⟩ := hget i e hi
        obtain ⟨e1, e2⟩ := hdiv i j hj'
        rw [e1, e2, hcell i hil j hj']
        have hl2 := (World.cells?_some (hq i (by omega)).1).2.1
        rw [List.getElem?_eq_getElem (by omega)]; rfl) (fun i e j d hi hj => by
        have hj' := hjm i e j d hi hj
        obtain ⟨hil, rfl⟩ := hget i e hi
        obtain ⟨e1, e2⟩ := hdiv i j hj'
        rw [e1, e2]
        have hl2 := (World.cells?_some (hq i (by omega)).1).2.1
        have hr := (hq i (by omega)).2.1
        refine hr.2 j d _ hj ?_
        rw [List.getElem?_eq_getElem (by omega)]; rfl)
    rw [List.length_map, hxl] at key
    exact key
  · obtain ⟨i, hi, rfl⟩ := List.mem_map.1 hx'
    exact (hq i (by have := List.mem_range.1 hi; omega)).2.2

/-- The fields of a struct, one behind the other, from place k on, over m cells. -/
def OpnFs (P : Program) (enc : TypeId × Value → H) (fs : List Field) (k m : Nat) {α : Type} (cells : α → List D) (ok : α → Prop) : Prop :=
  ∀ (W : World) (n : Nat) (vs : List Value), vs.length = m → (∀ f ∈ fs, ∃ y, DataW.trod enc P W 0 (fun _ => true) true n f.type ((vs.drop (f.offset - k)).take (P.cellsOf f.type)) = some y) →
    ∃ a, Rel2 (DRel W (fun b => b < W.heap.size)) (cells a) vs ∧ ok a
theorem opnFs_nil {k : Nat} : OpnFs P enc [] k 0 (fun _ : Unit => []) (fun _ => True) := fun W n vs hl _ => by
  obtain rfl := List.length_eq_zero_iff.1 hl
  exact ⟨(), Rel2.nil _, trivial⟩
theorem rel2_app {W : World} {ok : Nat → Prop} : ∀ {xs ys : List D} {vs ws : List Value}, Rel2 (DRel W ok) xs vs → Rel2 (DRel W ok) ys ws → Rel2 (DRel W ok) (xs ++ ys) (vs ++ ws)
  | [], ys, vs, ws, h1, h2 => by rw [h1.nil_left]; exact h2
  | x :: xs, ys, vs, ws, h1, h2 => by
    obtain ⟨v, vs', rfl, hv, hm⟩ := h1.uncons
    exact Rel2.cons hv (rel2_app hm h2)
theorem opnFs_cons {f : Field} {fs : List Field} {k c m : Nat} {α β : Type} {ca : α → List D} {cb : β → List D} {oa : α → Prop} {ob : β → Prop} (hf : f.offset = k) (hc : P.cellsOf f.type = c) (ha : Opn P enc f.type ca oa)
    (hfs : ∀ g ∈ fs, k + c ≤ g.offset) (hb : OpnFs P enc fs (k + c) m cb ob) : OpnFs P enc (f :: fs) k (c + m) (fun p : α × β => ca p.1 ++ cb p.2) (fun p => oa p.1 ∧ ob p.2) := fun W n vs hl h => by
  obtain ⟨y, hy⟩ := h f (by simp)
  rw [hf, Nat.sub_self, List.drop_zero, hc] at hy
  obtain ⟨a, ha1, ha2⟩ := ha W n _ y hy
  obtain ⟨b, hb1, hb2⟩ := hb W n (vs.drop c) (by simp; omega) (fun g hg => by
    obtain ⟨z, hz⟩ := h g (by simp [hg])
    have := hfs g hg
    refine ⟨z, ?_⟩
    rw [List.drop_drop, show c + (g.offset - (k + c)) = g.offset - k by omega]
    exact hz)
  refine ⟨(a, b), ?_, ha2, hb2⟩
  have := rel2_app ha1 hb1
  rwa [List.take_append_drop] at this
theorem opn_struct {t : TypeId} {fs : Array Field} {m : Nat} {α : Type} {cells : α → List D} {ok : α → Prop} (ht : P.underlying t = some (.struct fs)) (hm : P.cellsOf t = m) (h : OpnFs P enc fs.toList 0 m cells ok) : Opn P enc t cells ok := fun W n vs y hy => by
  obtain ⟨xs, n', rfl, _, hl, hxl, hf⟩ := DataW.trod_struct ht hy
  refine h W n' vs (hl.trans hm) fun f hfm => ?_
  obtain ⟨i, hi, rfl⟩ := List.getElem_of_mem hfm
  have hi' : i < fs.size := by simpa using hi
  have := hf i fs[i] (by simp [hi'])
  refine ⟨xs[i]'(by omega), ?_⟩
  rw [Nat.sub_zero]
  rw [List.getElem?_eq_getElem (by omega)] at this
  simpa using this
theorem opn_map {t : TypeId} {α β : Type} {ca : α → List D} {oa : α → Prop} {cb : β → List D} {ob : β → Prop} (h : Opn P enc t ca oa) (g : α → β) (hg : ∀ a, cb (g a) = ca a) (ho : ∀ a, oa a → ob (g a)) : Opn P enc t cb ob := fun W n vs y hy => by
  obtain ⟨a, h1, h2⟩ := h W n vs y hy
  exact ⟨g a, by rw [hg]; exact h1, ho a h2⟩
/-- A struct that is handed in. -/
theorem opn_agg {W : World} {r : Go.Reach} {base : Nat} {t : TypeId} {fs : Array Field} {v : Value} {d : DataW H} {ps : List MemPlace} {α : Type} {cells : α → List D} {ok : α → Prop} (ht : P.underlying t = some (.struct fs)) (ho : Opn P enc t cells ok)
    (hv : Value.okWide P W r base t v) (h : DataW.Trod enc P W 0 (fun _ => true) true t v d ps) : ∃ a, DRel W (fun b => b < W.heap.size) (.agg (cells a)) v ∧ ok a := by
  obtain ⟨fuel, h⟩ := h
  simp only [Value.okWide, ht] at hv
  obtain ⟨cs, rfl, _⟩ := hv
  obtain ⟨cs⟩ := cs
  obtain ⟨a, h1, h2⟩ := ho W fuel _ _ h
  exact ⟨a, .agg _ _ h1.1 h1.2, h2⟩
/-- One cell that is handed in. -/
theorem opn_cell {W : World} {t : TypeId} {v : Value} {d : DataW H} {ps : List MemPlace} {α : Type} {cell : α → D} {ok : α → Prop} (ho : Opn P enc t (fun a => [cell a]) ok) (hc : v.cells.toList = [v])
    (h : DataW.Trod enc P W 0 (fun _ => true) true t v d ps) : ∃ a, DRel W (fun b => b < W.heap.size) (cell a) v ∧ ok a := by
  obtain ⟨fuel, h⟩ := h
  rw [hc] at h
  obtain ⟨a, h1, h2⟩ := ho W fuel _ _ h
  exact ⟨a, h1.2 0 _ _ rfl rfl, h2⟩
end
end Go.Rx

namespace Go.Rx
open Go
attribute [local irreducible] Req Way WayG Sel callVC CallOK
set_option linter.unusedSimpArgs false
set_option linter.unusedVariables false

@[go_sem] def tysZ : Tys
  | 2 => some ⟨1, 8, .int .i64, [.d (.int .i64 0)]⟩
  | 3 => some ⟨1, 8, .int .i64, [.d (.int .i64 0)]⟩
  | 4 => some ⟨1, 1, .bool, [.d (.bool false)]⟩
  | 5 => some ⟨1, 1, .int .u8, [.d (.int .u8 0)]⟩
  | 6 => some ⟨1, 1, .int .u8, [.d (.int .u8 0)]⟩
  | 9 => some ⟨1, 16, .str, [.d (.str [])]⟩
  | 10 => some ⟨1, 16, .str, [.d (.str [])]⟩
  | 11 => some ⟨1, 16, .str, [.d (.str [])]⟩
  | 12 => some ⟨1, 8, .int .u64, [.d (.int .u64 0)]⟩
  | 15 => some ⟨1, 8, .ptr, [.d .nilp]⟩
  | 16 => some ⟨1, 8, .ptr, [.d .nilp]⟩
  | 17 => some ⟨1, 8, .ptr, [.d .nilp]⟩
  | 21 => some ⟨1, 4, .int .i32, [.d (.int .i32 0)]⟩
  | 22 => some ⟨1, 24, .slice 5, [.nils 1]⟩
  | 24 => some ⟨1, 24, .slice 41, [.nils 2]⟩
  | 26 => some ⟨1, 24, .slice 9, [.nils 1]⟩
  | 27 => some ⟨1, 24, .slice 142, [.nils 2]⟩
  | 28 => some ⟨2, 48, .struct [(0, 26), (1, 27)], [.nils 1, .nils 2]⟩
  | 29 => some ⟨2, 48, .struct [(0, 26), (1, 27)], [.nils 1, .nils 2]⟩
  | 32 => some ⟨1, 24, .slice 3, [.nils 1]⟩
  | 33 => some ⟨6, 128, .struct [(0, 29), (2, 3), (3, 32), (4, 32), (5, 32)], [.nils 1, .nils 2, .d (.int .i64 0), .nils 1, .nils 1, .nils 1]⟩
  | 34 => some ⟨6, 128, .struct [(0, 29), (2, 3), (3, 32), (4, 32), (5, 32)], [.nils 1, .nils 2, .d (.int .i64 0), .nils 1, .nils 1, .nils 1]⟩
  | 36 => some ⟨1, 24, .slice 88, [.nils 2]⟩
  | 37 => some ⟨4, 48, .struct [(0, 3), (1, 3), (2, 3), (3, 36)], [.d (.int .i64 0), .d (.int .i64 0), .d (.int .i64 0), .nils 2]⟩
  | 38 => some ⟨4, 48, .struct [(0, 3), (1, 3), (2, 3), (3, 36)], [.d (.int .i64 0), .d (.int .i64 0), .d (.int .i64 0), .nils 2]⟩
  | 40 => some ⟨2, 32, .struct [(0, 9), (1, 9)], [.d (.str []), .d (.str [])]⟩
  | 41 => some ⟨2, 32, .struct [(0, 9), (1, 9)], [.d (.str []), .d (.str [])]⟩
  | 48 => some ⟨1, 24, .slice 223, [.nils 2]⟩
  | 49 => some ⟨2, 48, .struct [(0, 26), (1, 48)], [.nils 1, .nils 2]⟩
  | 50 => some ⟨2, 48, .struct [(0, 26), (1, 48)], [.nils 1, .nils 2]⟩
  | 51 => some ⟨1, 24, .slice 225, [.nils 2]⟩
  | 52 => some ⟨4, 48, .struct [(0, 3), (1, 3), (2, 3), (3, 51)], [.d (.int .i64 0), .d (.int .i64 0), .d (.int .i64 0), .nils 2]⟩
  | 53 => some ⟨4, 48, .struct [(0, 3), (1, 3), (2, 3), (3, 51)], [.d (.int .i64 0), .d (.int .i64 0), .d (.int .i64 0), .nils 2]⟩
  | 54 => some ⟨1, 24, .slice 187, [.nils 5]⟩
  | 55 => some ⟨6, 128, .struct [(0, 50), (2, 3), (3, 32), (4, 32), (5, 32)], [.nils 1, .nils 2, .d (.int .i64 0), .nils 1, .nils 1, .nils 1]⟩
  | 56 => some ⟨6, 128, .struct [(0, 50), (2, 3), (3, 32), (4, 32), (5, 32)], [.nils 1, .nils 2, .d (.int .i64 0), .nils 1, .nils 1, .nils 1]⟩
  | 57 => some ⟨11, 184, .struct [(0, 53), (4, 56), (10, 3)], [.d (.int .i64 0), .d (.int .i64 0), .d (.int .i64 0), .nils 2, .nils 1, .nils 2, .d (.int .i64 0), .nils 1, .nils 1, .nils 1, .d (.int .i64 0)]⟩
  | 58 => some ⟨11, 184, .struct [(0, 53), (4, 56), (10, 3)], [.d (.int .i64 0), .d (.int .i64 0), .d (.int .i64 0), .nils 2, .nils 1, .nils 2, .d (.int .i64 0), .nils 1, .nils 1, .nils 1, .d (.int .i64 0)]⟩
  | 59 => some ⟨20, 312, .struct [(0, 50), (2, 53), (6, 54), (7, 58), (18, 4), (19, 4)], [.nils 1, .nils 2, .d (.int .i64 0), .d (.int .i64 0), .d (.int .i64 0), .nils 2, .nils 5, .d (.int .i64 0), .d (.int .i64 0), .d (.int .i64 0), .nils 2, .nils 1, .nils 2, .d (.int .i64 0), .nils 1, .nils 1, .nils 1, .d (.int .i64 0), .d (.bool false), .d (.bool false)]⟩
  | 60 => some ⟨20, 312, .struct [(0, 50), (2, 53), (6, 54), (7, 58), (18, 4), (19, 4)], [.nils 1, .nils 2, .d (.int .i64 0), .d (.int .i64 0), .d (.int .i64 0), .nils 2, .nils 5, .d (.int .i64 0), .d (.int .i64 0), .d (.int .i64 0), .nils 2, .nils 1, .nils 2, .d (.int .i64 0), .nils 1, .nils 1, .nils 1, .d (.int .i64 0), .d (.bool false), .d (.bool false)]⟩
  | 61 => some ⟨1, 24, .slice 148, [.nils 2]⟩
  | 62 => some ⟨1, 24, .slice 151, [.nils 2]⟩
  | 63 => some ⟨25, 432, .struct [(0, 60), (20, 61), (21, 61), (22, 62), (23, 32), (24, 26)], [.nils 1, .nils 2, .d (.int .i64 0), .d (.int .i64 0), .d (.int .i64 0), .nils 2, .nils 5, .d (.int .i64 0), .d (.int .i64 0), .d (.int .i64 0), .nils 2, .nils 1, .nils 2, .d (.int .i64 0), .nils 1, .nils 1, .nils 1, .d (.int .i64 0), .d (.bool false), .d (.bool false), .nils 2, .nils 2, .nils 2, .nils 1, .nils 1]⟩
  | 64 => some ⟨25, 432, .struct [(0, 60), (20, 61), (21, 61), (22, 62), (23, 32), (24, 26)], [.nils 1, .nils 2, .d (.int .i64 0), .d (.int .i64 0), .d (.int .i64 0), .nils 2, .nils 5, .d (.int .i64 0), .d (.int .i64 0), .d (.int .i64 0), .nils 2, .nils 1, .nils 2, .d (.int .i64 0), .nils 1, .nils 1, .nils 1, .d (.int .i64 0), .d (.bool false), .d (.bool false), .nils 2, .nils 2, .nils 2, .nils 1, .nils 1]⟩
  | 67 => some ⟨1, 24, .slice 192, [.nils 5]⟩
  | 68 => some ⟨11, 184, .struct [(0, 38), (4, 34), (10, 3)], [.d (.int .i64 0), .d (.int .i64 0), .d (.int .i64 0), .nils 2, .nils 1, .nils 2, .d (.int .i64 0), .nils 1, .nils 1, .nils 1, .d (.int .i64 0)]⟩
  | 69 => some ⟨11, 184, .struct [(0, 38), (4, 34), (10, 3)], [.d (.int .i64 0), .d (.int .i64 0), .d (.int .i64 0), .nils 2, .nils 1, .nils 2, .d (.int .i64 0), .nils 1, .nils 1, .nils 1, .d (.int .i64 0)]⟩
  | 70 => some ⟨20, 312, .struct [(0, 29), (2, 38), (6, 67), (7, 69), (18, 4), (19, 4)], [.nils 1, .nils 2, .d (.int .i64 0), .d (.int .i64 0), .d (.int .i64 0), .nils 2, .nils 5, .d (.int .i64 0), .d (.int .i64 0), .d (.int .i64 0), .nils 2, .nils 1, .nils 2, .d (.int .i64 0), .nils 1, .nils 1, .nils 1, .d (.int .i64 0), .d (.bool false), .d (.bool false)]⟩
  | 71 => some ⟨20, 312, .struct [(0, 29), (2, 38), (6, 67), (7, 69), (18, 4), (19, 4)], [.nils 1, .nils 2, .d (.int .i64 0), .d (.int .i64 0), .d (.int .i64 0), .nils 2, .nils 5, .d (.int .i64 0), .d (.int .i64 0), .d (.int .i64 0), .nils 2, .nils 1, .nils 2, .d (.int .i64 0), .nils 1, .nils 1, .nils 1, .d (.int .i64 0), .d (.bool false), .d (.bool false)]⟩
  | 72 => some ⟨1, 24, .slice 158, [.nils 2]⟩
  | 73 => some ⟨25, 432, .struct [(0, 71), (20, 24), (21, 24), (22, 72), (23, 32), (24, 26)], [.nils 1, .nils 2, .d (.int .i64 0), .d (.int .i64 0), .d (.int .i64 0), .nils 2, .nils 5, .d (.int .i64 0), .d (.int .i64 0), .d (.int .i64 0), .nils 2, .nils 1, .nils 2, .d (.int .i64 0), .nils 1, .nils 1, .nils 1, .d (.int .i64 0), .d (.bool false), .d (.bool false), .nils 2, .nils 2, .nils 2, .nils 1, .nils 1]⟩
  | 74 => some ⟨25, 432, .struct [(0, 71), (20, 24), (21, 24), (22, 72), (23, 32), (24, 26)], [.nils 1, .nils 2, .d (.int .i64 0), .d (.int .i64 0), .d (.int .i64 0), .nils 2, .nils 5, .d (.int .i64 0), .d (.int .i64 0), .d (.int .i64 0), .nils 2, .nils 1, .nils 2, .d (.int .i64 0), .nils 1, .nils 1, .nils 1, .d (.int .i64 0), .d (.bool false), .d (.bool false), .nils 2, .nils 2, .nils 2, .nils 1, .nils 1]⟩
  | 83 => some ⟨1, 8, .ptr, [.d .nilp]⟩
  | 87 => some ⟨2, 32, .struct [(0, 3), (1, 32)], [.d (.int .i64 0), .nils 1]⟩
  | 88 => some ⟨2, 32, .struct [(0, 3), (1, 32)], [.d (.int .i64 0), .nils 1]⟩
  | 93 => some ⟨1, 8, .ptr, [.d .nilp]⟩
  | 94 => some ⟨7, 136, .struct [(0, 34), (6, 4)], [.nils 1, .nils 2, .d (.int .i64 0), .nils 1, .nils 1, .nils 1, .d (.bool false)]⟩
  | 95 => some ⟨7, 136, .struct [(0, 34), (6, 4)], [.nils 1, .nils 2, .d (.int .i64 0), .nils 1, .nils 1, .nils 1, .d (.bool false)]⟩
  | 97 => some ⟨4, 80, .struct [(0, 4), (1, 26), (2, 26), (3, 32)], [.d (.bool false), .nils 1, .nils 1, .nils 1]⟩
  | 98 => some ⟨4, 80, .struct [(0, 4), (1, 26), (2, 26), (3, 32)], [.d (.bool false), .nils 1, .nils 1, .nils 1]⟩
  | 99 => some ⟨1, 24, .slice 103, [.nils 2]⟩
  | 102 => some ⟨2, 24, .struct [(0, 9), (1, 3)], [.d (.str []), .d (.int .i64 0)]⟩
  | 103 => some ⟨2, 24, .struct [(0, 9), (1, 3)], [.d (.str []), .d (.int .i64 0)]⟩
  | 106 => some ⟨1, 8, .ptr, [.d .nilp]⟩
  | 108 => some ⟨5, 80, .struct [(0, 24), (1, 32), (2, 32), (3, 4), (4, 4)], [.nils 2, .nils 1, .nils 1, .d (.bool false), .d (.bool false)]⟩
  | 109 => some ⟨5, 80, .struct [(0, 24), (1, 32), (2, 32), (3, 4), (4, 4)], [.nils 2, .nils 1, .nils 1, .d (.bool false), .d (.bool false)]⟩
  | 129 => some ⟨3, 40, .struct [(0, 22), (1, 3), (2, 3)], [.nils 1, .d (.int .i64 0), .d (.int .i64 0)]⟩
  | 130 => some ⟨3, 40, .struct [(0, 22), (1, 3), (2, 3)], [.nils 1, .d (.int .i64 0), .d (.int .i64 0)]⟩
  | 131 => some ⟨1, 8, .int .u64, [.d (.int .u64 0)]⟩
  | 141 => some ⟨2, 24, .struct [(0, 3), (1, 9)], [.d (.int .i64 0), .d (.str [])]⟩
  | 142 => some ⟨2, 24, .struct [(0, 3), (1, 9)], [.d (.int .i64 0), .d (.str [])]⟩
  | 148 => some ⟨2, 32, .struct [(0, 9), (1, 9)], [.d (.str []), .d (.str [])]⟩
  | 150 => some ⟨2, 32, .struct [(0, 3), (1, 61)], [.d (.int .i64 0), .nils 2]⟩
  | 151 => some ⟨2, 32, .struct [(0, 3), (1, 61)], [.d (.int .i64 0), .nils 2]⟩
  | 157 => some ⟨2, 32, .struct [(0, 3), (1, 24)], [.d (.int .i64 0), .nils 2]⟩
  | 158 => some ⟨2, 32, .struct [(0, 3), (1, 24)], [.d (.int .i64 0), .nils 2]⟩
  | 179 => some ⟨1, 24, .slice 98, [.nils 4]⟩
  | 186 => some ⟨5, 56, .struct [(0, 3), (1, 53)], [.d (.int .i64 0), .d (.int .i64 0), .d (.int .i64 0), .d (.int .i64 0), .nils 2]⟩
  | 187 => some ⟨5, 56, .struct [(0, 3), (1, 53)], [.d (.int .i64 0), .d (.int .i64 0), .d (.int .i64 0), .d (.int .i64 0), .nils 2]⟩
  | 191 => some ⟨5, 56, .struct [(0, 3), (1, 38)], [.d (.int .i64 0), .d (.int .i64 0), .d (.int .i64 0), .d (.int .i64 0), .nils 2]⟩
  | 192 => some ⟨5, 56, .struct [(0, 3), (1, 38)], [.d (.int .i64 0), .d (.int .i64 0), .d (.int .i64 0), .d (.int .i64 0), .nils 2]⟩
  | 195 => some ⟨1, 8, .ptr, [.d .nilp]⟩
  | 197 => some ⟨7, 128, .struct [(0, 29), (2, 32), (3, 24), (4, 32), (5, 4), (6, 4)], [.nils 1, .nils 2, .nils 1, .nils 2, .nils 1, .d (.bool false), .d (.bool false)]⟩
  | 198 => some ⟨7, 128, .struct [(0, 29), (2, 32), (3, 24), (4, 32), (5, 4), (6, 4)], [.nils 1, .nils 2, .nils 1, .nils 2, .nils 1, .d (.bool false), .d (.bool false)]⟩
  | 211 => some ⟨1, 8, .ptr, [.d .nilp]⟩
  | 212 => some ⟨3, 32, .struct [(0, 9), (1, 3), (2, 4)], [.d (.str []), .d (.int .i64 0), .d (.bool false)]⟩
  | 213 => some ⟨3, 32, .struct [(0, 9), (1, 3), (2, 4)], [.d (.str []), .d (.int .i64 0), .d (.bool false)]⟩
  | 217 => some ⟨1, 8, .ptr, [.d .nilp]⟩
  | 218 => some ⟨3, 32, .struct [(0, 9), (1, 3), (2, 4)], [.d (.str []), .d (.int .i64 0), .d (.bool false)]⟩
  | 219 => some ⟨3, 32, .struct [(0, 9), (1, 3), (2, 4)], [.d (.str []), .d (.int .i64 0), .d (.bool false)]⟩
  | 223 => some ⟨2, 24, .struct [(0, 3), (1, 9)], [.d (.int .i64 0), .d (.str [])]⟩
  | 225 => some ⟨2, 32, .struct [(0, 3), (1, 32)], [.d (.int .i64 0), .nils 1]⟩
  | 234 => some ⟨1, 8, .ptr, [.d .nilp]⟩
  | 235 => some ⟨1, 24, .slice 4, [.nils 1]⟩
  | 236 => some ⟨7, 88, .struct [(0, 3), (1, 3), (2, 9), (3, 9), (4, 3), (5, 235), (6, 3)], [.d (.int .i64 0), .d (.int .i64 0), .d (.str []), .d (.str []), .d (.int .i64 0), .nils 1, .d (.int .i64 0)]⟩
  | 237 => some ⟨7, 88, .struct [(0, 3), (1, 3), (2, 9), (3, 9), (4, 3), (5, 235), (6, 3)], [.d (.int .i64 0), .d (.int .i64 0), .d (.str []), .d (.str []), .d (.int .i64 0), .nils 1, .d (.int .i64 0)]⟩
  | 241 => some ⟨1, 8, .ptr, [.d .nilp]⟩
  | 260 => some ⟨1, 4, .int .u32, [.d (.int .u32 0)]⟩
  | _ => none
theorem tysZOK : TyOK Go.Proofs.Tryz.prog tysZ := by
  refine tyOK_of fun t i h => ?_
  unfold tysZ at h
  split at h <;> first | (cases h; kernel_rfl) | cases h

theorem mixedZ : Go.Proofs.Tryz.prog.follows .mixedOrders = true := by kernel_rfl

end Go.Rx

namespace Go.Rx
open Go
attribute [local irreducible] Req Way WayG Sel callVC CallOK
set_option linter.unusedSimpArgs false
set_option linter.unusedVariables false
@[go_sem] def hr41 : Hints
  | 0 => [0, 1] | 1 => [0, 1] | 2 => [1] | 3 => [] | 4 => [1] | _ => []
@[go_sem] def hl41 : Hints := fun _ => []
attribute [go_sem] Go.Proofs.Tryz.results41
theorem c41 (l : List Int) (left : Int) : CallOK Go.Proofs.Tryz.prog 41 [.d (.sl (ints l)), .d (.int .i64 left)] [] [.dead, .dead] (.d (.int .i64 (szFl l left))) [] := by
  refine call_of tysZOK mixedZ Go.Proofs.Tryz.func41 (by kernel_rfl) rfl (np := [false, false]) (by kernel_rfl) hr41 hl41 (by simp [Go.Proofs.Tryz.ntmps41]) ?_
  simp -implicitDefEqProofs (maxSteps := 3000000) only [go_sem, reduceCtorEq, ints_length]
  refine way_dec (fun h1 => ?_) (fun h1 => ?_)
  · simp -implicitDefEqProofs (maxSteps := 3000000) only [go_sem, reduceCtorEq]
    simp [szFl, sub64, h1]
  · simp -implicitDefEqProofs (maxSteps := 3000000) only [go_sem, reduceCtorEq]
    simp [szFl, sub64, h1]
theorem k41 {h : Heap} {tb : Nat} {K : OK} {args : List V} {ls : List Nat} (l : List Int) (left : Int) (hg : toDs h args = some ([.sl (ints l), .int .i64 left], ls))
    (hk : K (.d (.int .i64 (szFl l left))) []) : callVC Go.Proofs.Tryz.prog h tb 41 args K :=
  call_free hg (c41 l left) rfl (.inr ⟨.d (.int _ _), flatH_nil⟩) hk
@[go_sem] def hr47 : Hints
  | 0 => [0] | 1 => [0] | 2 => [0, 3] | 3 => [0, 3, 4] | 4 => [0, 3, 4] | 5 => [0, 3, 4] | 6 => [3] | _ => []
@[go_sem] def hl47 : Hints
  | 3 => [0, 3, 4] | _ => []
attribute [go_sem] Go.Proofs.Tryz.results47
theorem c47 (l : List Int) (hl : l.length ≤ 1048576) : CallOK Go.Proofs.Tryz.prog 47 [.d (.sl (ints l))] [] [.dead] (.d (.sl (ints l))) [] := by
  have hl1 := hl
  refine freeze_own (m := 1) (n := l.length) ?_ ints_length.symm rfl
  refine call_of tysZOK mixedZ Go.Proofs.Tryz.func47 (by kernel_rfl) rfl (np := [false]) (by kernel_rfl) hr47 hl47 (by simp [Go.Proofs.Tryz.ntmps47]) ?_
  simp -implicitDefEqProofs (maxSteps := 3000000) only [go_sem, reduceCtorEq, ints_length]
  repeat ((first | refine req (by first | assumption | omega) ?_); simp -implicitDefEqProofs (maxSteps := 3000000) only [go_sem, reduceCtorEq, ints_length])
  rw [ints_zero]
  refine loop_data (α := Nat × List (Int)) (fun x => ⟨[(0, .d (.sl (ints l))), (3, .own 0 0 l.length), (4, .d (.int .i64 x.1))], [(0, some (.arr 1 (ints x.2)))]⟩)
    (fun x => x.1 ≤ l.length ∧ x.2.length = l.length ∧ x.2.take x.1 = l.take x.1) (fun x => l.length - x.1) (0, _) rfl ⟨Nat.zero_le _, by simp, by simp⟩ ?_
  rintro ⟨i, m⟩ ⟨h2, h3, h4⟩
  simp only at h2 h3 h4
  simp -implicitDefEqProofs (maxSteps := 3000000) only [go_sem, reduceCtorEq, ints_length]
  refine way_dec (fun h5 => ?_) (fun h5 => ?_)
  · obtain ⟨p, hp⟩ := some_at h5
    obtain ⟨q, hq⟩ := some_at (l := m) (h3 ▸ h5)
    simp -implicitDefEqProofs (maxSteps := 3000000) only [go_sem, reduceCtorEq, ints_length, lget_ints hp]
    repeat ((first | refine req (by first | assumption | omega) ?_); simp -implicitDefEqProofs (maxSteps := 3000000) only [go_sem, reduceCtorEq, ints_length, lget_ints hp, lget_ints hq])
    rw [wrap_succ (by simp only [LEN]; omega)]
    try rw [ints_set]
    refine next_data (i + 1, m.set i p) rfl ⟨?_, by simpa using h3, take_set hp h3 h4⟩ ?_
    · simp only; omega
    · simp only; omega
  · simp -implicitDefEqProofs (maxSteps := 3000000) only [go_sem, reduceCtorEq, ints_length]
    rw [List.take_of_length_le (by omega), List.take_of_length_le (by omega)] at h4
    rw [h4]
theorem k47 {h : Heap} {tb : Nat} {K : OK} {args : List V} (l : List Int) (hg : toDs h args = some ([.sl (ints l)], [])) (hl : l.length ≤ 1048576)
    (hk : K (.d (.sl (ints l))) []) : callVC Go.Proofs.Tryz.prog h tb 47 args K :=
  call_free hg (c47 l hl) rfl (.inl rfl) hk
@[go_sem] def hr53 : Hints
  | 0 => [0, 1] | 1 => [0, 1] | 2 => [] | 3 => [0, 1] | 4 => [0, 1, 5] | 5 => [0, 1, 5] | 6 => [0, 1, 5] | 7 => [] | 8 => [] | _ => []
@[go_sem] def hl53 : Hints
  | 4 => [0, 1, 5] | _ => []
attribute [go_sem] Go.Proofs.Tryz.results53
theorem c53 (l : List Int) (hl : l.length ≤ LEN) : CallOK Go.Proofs.Tryz.prog 53 [.d (.sl (ints l)), .d (.sl (ints l))] [] [.dead, .dead] (.d (.bool true)) [] := by
  have hl1 := hl
  refine call_of tysZOK mixedZ Go.Proofs.Tryz.func53 (by kernel_rfl) rfl (np := [false, false]) (by kernel_rfl) hr53 hl53 (by simp [Go.Proofs.Tryz.ntmps53]) ?_
  simp -implicitDefEqProofs (maxSteps := 3000000) only [go_sem, reduceCtorEq, ints_length]
  refine loop_data (α := Nat) (fun i => ⟨[(0, .d (.sl (ints l))), (1, .d (.sl (ints l))), (5, .d (.int .i64 i))], []⟩)
    (fun i => i ≤ l.length) (fun i => l.length - i) 0 rfl (Nat.zero_le _) ?_
  rintro i h2
  simp -implicitDefEqProofs (maxSteps := 3000000) only [go_sem, reduceCtorEq, ints_length]
  refine way_dec (fun h5 => ?_) (fun h5 => ?_)
  · obtain ⟨p, hp⟩ := some_at h5
    simp -implicitDefEqProofs (maxSteps := 3000000) only [go_sem, reduceCtorEq, ints_length, lget_ints hp]
    repeat ((first | refine req (by first | assumption | omega | exact commP_of (by kernel_rfl)) ?_); simp -implicitDefEqProofs (maxSteps := 3000000) only [go_sem, reduceCtorEq, ints_length, lget_ints hp, decide_true])
    rw [wrap_succ (by omega)]
    exact next_data (i + 1) rfl (by omega) (by omega)
  · simp -implicitDefEqProofs (maxSteps := 3000000) only [go_sem, reduceCtorEq, ints_length]
theorem k53 {h : Heap} {tb : Nat} {K : OK} {args : List V} {ls : List Nat} (l : List Int) (hg : toDs h args = some ([.sl (ints l), .sl (ints l)], ls)) (hl : l.length ≤ LEN)
    (hk : K (.d (.bool true)) []) : callVC Go.Proofs.Tryz.prog h tb 53 args K :=
  call_free hg (c53 l hl) rfl (.inr ⟨.d (.bool _), flatH_nil⟩) hk

@[go_sem] def hr42 : Hints
  | 0 => [0, 1] | 1 => [0, 1] | 2 => [0, 1] | 3 => [] | 4 => [0, 1] | 5 => [0, 1, 5] | 6 => [0, 1, 5] | 7 => [0, 1, 5] | 8 => [0, 1, 5] | 9 => [] | 10 => [1] | _ => []
@[go_sem] def hl42 : Hints
  | 5 => [0, 1, 5] | _ => []
attribute [go_sem] Go.Proofs.Tryz.results42
theorem c42 (l : List (List UInt8)) (left : Int) (hl : okSl (fun s : List UInt8 => s.length ≤ LEN) l) : CallOK Go.Proofs.Tryz.prog 42 [.d (.sl (strs l)), .d (.int .i64 left)] [] [.dead, .dead] (.d (.int .i64 (szSl szTx l left))) [] := by
  refine call_of tysZOK mixedZ Go.Proofs.Tryz.func42 (by kernel_rfl) rfl (np := [false, false]) (by kernel_rfl) hr42 hl42 (by simp [Go.Proofs.Tryz.ntmps42]) ?_
  simp -implicitDefEqProofs (maxSteps := 3000000) only [go_sem, reduceCtorEq, strs_length]
  refine way_dec (fun h1 => ?_) (fun h1 => ?_)
  · simp -implicitDefEqProofs (maxSteps := 3000000) only [go_sem, reduceCtorEq]
    simp [szSl, sub64, h1]
  · simp -implicitDefEqProofs (maxSteps := 3000000) only [go_sem, reduceCtorEq]
    refine loop_data (α := Nat × Int) (fun x => ⟨[(0, .d (.sl (strs l))), (1, .d (.int .i64 x.2)), (5, .d (.int .i64 x.1))], []⟩)
      (fun x => x.1 ≤ l.length ∧ chainL szTx (l.drop x.1) x.2 = szSl szTx l left) (fun x => l.length - x.1) (0, IntKind.i64.wrap (left - l.length)) rfl ⟨Nat.zero_le _, by simp [szSl, sub64, h1]⟩ ?_
    rintro ⟨i, lf⟩ ⟨h2, h3⟩
    simp -implicitDefEqProofs (maxSteps := 3000000) only [go_sem, reduceCtorEq, strs_length]
    refine way_dec (fun h4 => ?_) (fun h4 => ?_)
    · obtain ⟨p, hp⟩ := some_at h4
      rw [drop_cons hp] at h3
      simp -implicitDefEqProofs (maxSteps := 3000000) only [go_sem, reduceCtorEq, strs_length, lget_strs hp]
      repeat ((first | refine req (by first | assumption | omega) ?_); simp -implicitDefEqProofs (maxSteps := 3000000) only [go_sem, reduceCtorEq, strs_length, lget_strs hp])
      refine way_dec (fun h5 => ?_) (fun h5 => ?_)
      · simp -implicitDefEqProofs (maxSteps := 3000000) only [go_sem, reduceCtorEq]
        rw [← h3, chainL_neg (f := szTx) (a := p) (l := lf) h5]
      · simp -implicitDefEqProofs (maxSteps := 3000000) only [go_sem, reduceCtorEq]
        refine next_data (i + 1, szTx p lf) ?_ ⟨?_, ?_⟩ ?_
        · first | (simp only [wrap_succ (show i < LEN by have := hl.1; omega)]; done) | (simp only [wrap_succ (show i < LEN by have := hl.1; omega)]; rfl)
        · simp only; omega
        · rw [← h3]; exact (chainL_pos (f := szTx) (a := p) (l := lf) h5).symm
        · simp only; omega
    · simp -implicitDefEqProofs (maxSteps := 3000000) only [go_sem, reduceCtorEq, strs_length]
      rw [List.drop_eq_nil_of_le (by omega)] at h3
      rw [← h3]; rfl
theorem k42 {h : Heap} {tb : Nat} {K : OK} {args : List V} {ls : List Nat} (l : List (List UInt8)) (left : Int) (hg : toDs h args = some ([.sl (strs l), .int .i64 left], ls)) (hl : okSl (fun s : List UInt8 => s.length ≤ LEN) l)
    (hk : K (.d (.int .i64 (szSl szTx l left))) []) : callVC Go.Proofs.Tryz.prog h tb 42 args K :=
  call_free hg (c42 l left hl) rfl (.inr ⟨.d (.int _ _), flatH_nil⟩) hk
@[go_sem] def hr48 : Hints
  | 0 => [0] | 1 => [0] | 2 => [0, 3] | 3 => [0, 3, 4] | 4 => [0, 3, 4] | 5 => [0, 3, 4] | 6 => [3] | _ => []
@[go_sem] def hl48 : Hints
  | 3 => [0, 3, 4] | _ => []
attribute [go_sem] Go.Proofs.Tryz.results48
theorem c48 (l : List (List UInt8)) (hl : l.length ≤ 1048576) : CallOK Go.Proofs.Tryz.prog 48 [.d (.sl (strs l))] [] [.dead] (.d (.sl (strs l))) [] := by
  have hl1 := hl
  refine freeze_own (m := 1) (n := l.length) ?_ strs_length.symm rfl
  refine call_of tysZOK mixedZ Go.Proofs.Tryz.func48 (by kernel_rfl) rfl (np := [false]) (by kernel_rfl) hr48 hl48 (by simp [Go.Proofs.Tryz.ntmps48]) ?_
  simp -implicitDefEqProofs (maxSteps := 3000000) only [go_sem, reduceCtorEq, strs_length]
  repeat ((first | refine req (by first | assumption | omega) ?_); simp -implicitDefEqProofs (maxSteps := 3000000) only [go_sem, reduceCtorEq, strs_length])
  rw [strs_zero]
  refine loop_data (α := Nat × List ((List UInt8))) (fun x => ⟨[(0, .d (.sl (strs l))), (3, .own 0 0 l.length), (4, .d (.int .i64 x.1))], [(0, some (.arr 1 (strs x.2)))]⟩)
    (fun x => x.1 ≤ l.length ∧ x.2.length = l.length ∧ x.2.take x.1 = l.take x.1) (fun x => l.length - x.1) (0, _) rfl ⟨Nat.zero_le _, by simp, by simp⟩ ?_
  rintro ⟨i, m⟩ ⟨h2, h3, h4⟩
  simp only at h2 h3 h4
  simp -implicitDefEqProofs (maxSteps := 3000000) only [go_sem, reduceCtorEq, strs_length]
  refine way_dec (fun h5 => ?_) (fun h5 => ?_)
  · obtain ⟨p, hp⟩ := some_at h5
    obtain ⟨q, hq⟩ := some_at (l := m) (h3 ▸ h5)
    simp -implicitDefEqProofs (maxSteps := 3000000) only [go_sem, reduceCtorEq, strs_length, lget_strs hp]
    repeat ((first | refine req (by first | assumption | omega) ?_); simp -implicitDefEqProofs (maxSteps := 3000000) only [go_sem, reduceCtorEq, strs_length, lget_strs hp, lget_strs hq])
    rw [wrap_succ (by simp only [LEN]; omega)]
    try rw [strs_set]
    refine next_data (i + 1, m.set i p) rfl ⟨?_, by simpa using h3, take_set hp h3 h4⟩ ?_
    · simp only; omega
    · simp only; omega
  · simp -implicitDefEqProofs (maxSteps := 3000000) only [go_sem, reduceCtorEq, strs_length]
    rw [List.take_of_length_le (by omega), List.take_of_length_le (by omega)] at h4
    rw [h4]
theorem k48 {h : Heap} {tb : Nat} {K : OK} {args : List V} (l : List (List UInt8)) (hg : toDs h args = some ([.sl (strs l)], [])) (hl : l.length ≤ 1048576)
    (hk : K (.d (.sl (strs l))) []) : callVC Go.Proofs.Tryz.prog h tb 48 args K :=
  call_free hg (c48 l hl) rfl (.inl rfl) hk
@[go_sem] def hr54 : Hints
  | 0 => [0, 1] | 1 => [0, 1] | 2 => [] | 3 => [0, 1] | 4 => [0, 1, 5] | 5 => [0, 1, 5] | 6 => [0, 1, 5] | 7 => [] | 8 => [] | _ => []
@[go_sem] def hl54 : Hints
  | 4 => [0, 1, 5] | _ => []
attribute [go_sem] Go.Proofs.Tryz.results54
theorem c54 (l : List (List UInt8)) (hl : l.length ≤ LEN) : CallOK Go.Proofs.Tryz.prog 54 [.d (.sl (strs l)), .d (.sl (strs l))] [] [.dead, .dead] (.d (.bool true)) [] := by
  have hl1 := hl
  refine call_of tysZOK mixedZ Go.Proofs.Tryz.func54 (by kernel_rfl) rfl (np := [false, false]) (by kernel_rfl) hr54 hl54 (by simp [Go.Proofs.Tryz.ntmps54]) ?_
  simp -implicitDefEqProofs (maxSteps := 3000000) only [go_sem, reduceCtorEq, strs_length]
  refine loop_data (α := Nat) (fun i => ⟨[(0, .d (.sl (strs l))), (1, .d (.sl (strs l))), (5, .d (.int .i64 i))], []⟩)
    (fun i => i ≤ l.length) (fun i => l.length - i) 0 rfl (Nat.zero_le _) ?_
  rintro i h2
  simp -implicitDefEqProofs (maxSteps := 3000000) only [go_sem, reduceCtorEq, strs_length]
  refine way_dec (fun h5 => ?_) (fun h5 => ?_)
  · obtain ⟨p, hp⟩ := some_at h5
    simp -implicitDefEqProofs (maxSteps := 3000000) only [go_sem, reduceCtorEq, strs_length, lget_strs hp]
    repeat ((first | refine req (by first | assumption | omega | exact commP_of (by kernel_rfl)) ?_); simp -implicitDefEqProofs (maxSteps := 3000000) only [go_sem, reduceCtorEq, strs_length, lget_strs hp, decide_true])
    rw [wrap_succ (by omega)]
    exact next_data (i + 1) rfl (by omega) (by omega)
  · simp -implicitDefEqProofs (maxSteps := 3000000) only [go_sem, reduceCtorEq, strs_length]
theorem k54 {h : Heap} {tb : Nat} {K : OK} {args : List V} {ls : List Nat} (l : List (List UInt8)) (hg : toDs h args = some ([.sl (strs l), .sl (strs l)], ls)) (hl : l.length ≤ LEN)
    (hk : K (.d (.bool true)) []) : callVC Go.Proofs.Tryz.prog h tb 54 args K :=
  call_free hg (c54 l hl) rfl (.inr ⟨.d (.bool _), flatH_nil⟩) hk

@[go_sem] def hr146 : Hints
  | 0 => [0, 1] | 1 => [1, 2] | 2 => [1] | 3 => [] | 4 => [1] | _ => []
@[go_sem] def hl146 : Hints := fun _ => []
attribute [go_sem] Go.Proofs.Tryz.results146
set_option maxHeartbeats 1000000 in
theorem c146 (x : GPut) (left : Int) (hx : okGPut x) : CallOK Go.Proofs.Tryz.prog 146 [.d (.agg x.cells), .d (.int .i64 left)] [] [.dead, .dead] (.d (.int .i64 (szGPut x left))) [] := by
  refine call_of tysZOK mixedZ Go.Proofs.Tryz.func146 (by kernel_rfl) rfl (np := [false, false]) (by kernel_rfl) hr146 hl146 (by simp [Go.Proofs.Tryz.ntmps146]) ?_
  have o0 := hx
  simp -implicitDefEqProofs (maxSteps := 3000000) only [go_sem, reduceCtorEq, GPut.cells]
  refine way_dec (fun h0 => ?_) (fun h0 => ?_)
  · simp -implicitDefEqProofs (maxSteps := 3000000) only [go_sem, reduceCtorEq]
    simp [szGPut, chain, szTx, sub64, h0]
  · simp -implicitDefEqProofs (maxSteps := 3000000) only [go_sem, reduceCtorEq]
    simp [szGPut, chain, szTx, sub64, h0]
theorem k146 {h : Heap} {tb : Nat} {K : OK} {args : List V} {ls : List Nat} (x : GPut) (left : Int) (hg : toDs h args = some ([.agg [.int .i64 x.fPage, .str x.fText], .int .i64 left], ls)) (hx : okGPut x)
    (hk : K (.d (.int .i64 (szGPut x left))) []) : callVC Go.Proofs.Tryz.prog h tb 146 args K :=
  call_free hg (c146 x left hx) rfl (.inr ⟨.d (.int _ _), flatH_nil⟩) hk
@[go_sem] def hr148 : Hints
  | 0 => [0] | 1 => [1, 2] | 2 => [1, 2, 3] | 3 => [1, 2, 3] | 4 => [2, 3] | _ => []
@[go_sem] def hl148 : Hints := fun _ => []
attribute [go_sem] Go.Proofs.Tryz.results148
set_option maxHeartbeats 2000000 in
theorem c148 (x : GPut) (hx : smallGPut x) : CallOK Go.Proofs.Tryz.prog 148 [.d (.agg x.cells)] [] [.dead] (.d (.agg x.cells)) [] := by
  refine freeze_agg ?_ rfl
  refine call_of tysZOK mixedZ Go.Proofs.Tryz.func148 (by kernel_rfl) rfl (np := [false]) (by kernel_rfl) hr148 hl148 (by simp [Go.Proofs.Tryz.ntmps148]) ?_
  have o0 := hx
  simp -implicitDefEqProofs (maxSteps := 3000000) only [go_sem, reduceCtorEq, GPut.cells]
  repeat ((first | refine req (by first | assumption | omega) ?_); simp -implicitDefEqProofs (maxSteps := 3000000) only [go_sem, reduceCtorEq])
  all_goals rfl
theorem k148 {h : Heap} {tb : Nat} {K : OK} {args : List V} (x : GPut) (hg : toDs h args = some ([.agg [.int .i64 x.fPage, .str x.fText]], [])) (hx : smallGPut x)
    (hk : K (.d (.agg [.int .i64 x.fPage, .str x.fText])) []) : callVC Go.Proofs.Tryz.prog h tb 148 args K :=
  call_free hg (c148 x hx) rfl (.inl rfl) hk
@[go_sem] def hr151 : Hints
  | 0 => [0, 1] | 1 => [2, 3] | 2 => [] | 3 => [2, 3] | 4 => [] | 5 => [] | _ => []
@[go_sem] def hl151 : Hints := fun _ => []
attribute [go_sem] Go.Proofs.Tryz.results151
set_option maxHeartbeats 2000000 in
theorem c151 (x : GPut) (hx : okGPut x) : CallOK Go.Proofs.Tryz.prog 151 [.d (.agg x.cells), .d (.agg x.cells)] [] [.dead, .dead] (.d (.bool true)) [] := by
  refine call_of tysZOK mixedZ Go.Proofs.Tryz.func151 (by kernel_rfl) rfl (np := [false, false]) (by kernel_rfl) hr151 hl151 (by simp [Go.Proofs.Tryz.ntmps151]) ?_
  have o0 := hx
  simp -implicitDefEqProofs (maxSteps := 3000000) only [go_sem, reduceCtorEq, GPut.cells, decide_true]
  repeat ((first | refine req (by first | assumption | omega) ?_); simp -implicitDefEqProofs (maxSteps := 3000000) only [go_sem, reduceCtorEq, decide_true, beq_self_eq_true])
theorem k151 {h : Heap} {tb : Nat} {K : OK} {args : List V} {ls : List Nat} (x : GPut) (hg : toDs h args = some ([.agg [.int .i64 x.fPage, .str x.fText], .agg [.int .i64 x.fPage, .str x.fText]], ls)) (hx : okGPut x)
    (hk : K (.d (.bool true)) []) : callVC Go.Proofs.Tryz.prog h tb 151 args K :=
  call_free hg (c151 x hx) rfl (.inr ⟨.d (.bool _), flatH_nil⟩) hk

@[go_sem] def hr111 : Hints
  | 0 => [0, 1] | 1 => [0, 1] | 2 => [0, 1] | 3 => [] | 4 => [0, 1] | 5 => [0, 1, 5] | 6 => [0, 1, 5] | 7 => [0, 1, 5] | 8 => [0, 1, 5] | 9 => [] | 10 => [1] | _ => []
@[go_sem] def hl111 : Hints
  | 5 => [0, 1, 5] | _ => []
attribute [go_sem] Go.Proofs.Tryz.results111
theorem c111 (l : List GPut) (left : Int) (hl : okSl okGPut l) : CallOK Go.Proofs.Tryz.prog 111 [.d (.sl (GPutS l)), .d (.int .i64 left)] [] [.dead, .dead] (.d (.int .i64 (szSl szGPut l left))) [] := by
  refine call_of tysZOK mixedZ Go.Proofs.Tryz.func111 (by kernel_rfl) rfl (np := [false, false]) (by kernel_rfl) hr111 hl111 (by simp [Go.Proofs.Tryz.ntmps111]) ?_
  simp -implicitDefEqProofs (maxSteps := 3000000) only [go_sem, reduceCtorEq, GPutS_length]
  refine way_dec (fun h1 => ?_) (fun h1 => ?_)
  · simp -implicitDefEqProofs (maxSteps := 3000000) only [go_sem, reduceCtorEq]
    simp [szSl, sub64, h1]
  · simp -implicitDefEqProofs (maxSteps := 3000000) only [go_sem, reduceCtorEq]
    refine loop_data (α := Nat × Int) (fun x => ⟨[(0, .d (.sl (GPutS l))), (1, .d (.int .i64 x.2)), (5, .d (.int .i64 x.1))], []⟩)
      (fun x => x.1 ≤ l.length ∧ chainL szGPut (l.drop x.1) x.2 = szSl szGPut l left) (fun x => l.length - x.1) (0, IntKind.i64.wrap (left - l.length)) rfl ⟨Nat.zero_le _, by simp [szSl, sub64, h1]⟩ ?_
    rintro ⟨i, lf⟩ ⟨h2, h3⟩
    simp -implicitDefEqProofs (maxSteps := 3000000) only [go_sem, reduceCtorEq, GPutS_length]
    refine way_dec (fun h4 => ?_) (fun h4 => ?_)
    · obtain ⟨p, hp⟩ := some_at h4
      rw [drop_cons hp] at h3
      simp -implicitDefEqProofs (maxSteps := 3000000) only [go_sem, reduceCtorEq, GPutS_length, lget_GPutS hp]
      repeat ((first | refine req (by first | assumption | omega) ?_ | refine k146 p _ rfl (hl.2 p (List.mem_of_getElem? hp)) ?_); simp -implicitDefEqProofs (maxSteps := 3000000) only [go_sem, reduceCtorEq, GPutS_length, lget_GPutS hp])
      refine way_dec (fun h5 => ?_) (fun h5 => ?_)
      · simp -implicitDefEqProofs (maxSteps := 3000000) only [go_sem, reduceCtorEq]
        rw [← h3, chainL_neg (f := szGPut) (a := p) (l := lf) h5]
      · simp -implicitDefEqProofs (maxSteps := 3000000) only [go_sem, reduceCtorEq]
        refine next_data (i + 1, szGPut p lf) ?_ ⟨?_, ?_⟩ ?_
        · first | (simp only [wrap_succ (show i < LEN by have := hl.1; omega)]; done) | (simp only [wrap_succ (show i < LEN by have := hl.1; omega)]; rfl)
        · simp only; omega
        · rw [← h3]; exact (chainL_pos (f := szGPut) (a := p) (l := lf) h5).symm
        · simp only; omega
    · simp -implicitDefEqProofs (maxSteps := 3000000) only [go_sem, reduceCtorEq, GPutS_length]
      rw [List.drop_eq_nil_of_le (by omega)] at h3
      rw [← h3]; rfl
theorem k111 {h : Heap} {tb : Nat} {K : OK} {args : List V} {ls : List Nat} (l : List GPut) (left : Int) (hg : toDs h args = some ([.sl (GPutS l), .int .i64 left], ls)) (hl : okSl okGPut l)
    (hk : K (.d (.int .i64 (szSl szGPut l left))) []) : callVC Go.Proofs.Tryz.prog h tb 111 args K :=
  call_free hg (c111 l left hl) rfl (.inr ⟨.d (.int _ _), flatH_nil⟩) hk
@[go_sem] def hr115 : Hints
  | 0 => [0] | 1 => [0] | 2 => [0, 3] | 3 => [0, 3, 4] | 4 => [0, 3, 4] | 5 => [0, 3, 4] | 6 => [3] | _ => []
@[go_sem] def hl115 : Hints
  | 3 => [0, 3, 4] | _ => []
attribute [go_sem] Go.Proofs.Tryz.results115
theorem c115 (l : List GPut) (hl : smallSl smallGPut l) : CallOK Go.Proofs.Tryz.prog 115 [.d (.sl (GPutS l))] [] [.dead] (.d (.sl (GPutS l))) [] := by
  have hl1 := hl.1
  refine freeze_own (m := 2) (n := l.length) ?_ GPutS_length.symm rfl
  refine call_of tysZOK mixedZ Go.Proofs.Tryz.func115 (by kernel_rfl) rfl (np := [false]) (by kernel_rfl) hr115 hl115 (by simp [Go.Proofs.Tryz.ntmps115]) ?_
  simp -implicitDefEqProofs (maxSteps := 3000000) only [go_sem, reduceCtorEq, GPutS_length]
  repeat ((first | refine req (by first | assumption | omega) ?_); simp -implicitDefEqProofs (maxSteps := 3000000) only [go_sem, reduceCtorEq, GPutS_length])
  rw [GPutS_zero]
  refine loop_data (α := Nat × List (GPut)) (fun x => ⟨[(0, .d (.sl (GPutS l))), (3, .own 0 0 l.length), (4, .d (.int .i64 x.1))], [(0, some (.arr 2 (GPutS x.2)))]⟩)
    (fun x => x.1 ≤ l.length ∧ x.2.length = l.length ∧ x.2.take x.1 = l.take x.1) (fun x => l.length - x.1) (0, _) rfl ⟨Nat.zero_le _, by simp, by simp⟩ ?_
  rintro ⟨i, m⟩ ⟨h2, h3, h4⟩
  simp only at h2 h3 h4
  simp -implicitDefEqProofs (maxSteps := 3000000) only [go_sem, reduceCtorEq, GPutS_length]
  refine way_dec (fun h5 => ?_) (fun h5 => ?_)
  · obtain ⟨p, hp⟩ := some_at h5
    obtain ⟨q, hq⟩ := some_at (l := m) (h3 ▸ h5)
    simp -implicitDefEqProofs (maxSteps := 3000000) only [go_sem, reduceCtorEq, GPutS_length, lget_GPutS hp]
    repeat ((first | refine req (by first | assumption | omega) ?_ | refine k148 p rfl (hl.2 p (List.mem_of_getElem? hp)) ?_); simp -implicitDefEqProofs (maxSteps := 3000000) only [go_sem, reduceCtorEq, GPutS_length, lget_GPutS hp, lget_GPutS hq])
    rw [wrap_succ (by simp only [LEN]; omega)]
    try rw [GPutS_set (p := p)]
    refine next_data (i + 1, m.set i p) rfl ⟨?_, by simpa using h3, take_set hp h3 h4⟩ ?_
    · simp only; omega
    · simp only; omega
  · simp -implicitDefEqProofs (maxSteps := 3000000) only [go_sem, reduceCtorEq, GPutS_length]
    rw [List.take_of_length_le (by omega), List.take_of_length_le (by omega)] at h4
    rw [h4]
theorem k115 {h : Heap} {tb : Nat} {K : OK} {args : List V} (l : List GPut) (hg : toDs h args = some ([.sl (GPutS l)], [])) (hl : smallSl smallGPut l)
    (hk : K (.d (.sl (GPutS l))) []) : callVC Go.Proofs.Tryz.prog h tb 115 args K :=
  call_free hg (c115 l hl) rfl (.inl rfl) hk
@[go_sem] def hr121 : Hints
  | 0 => [0, 1] | 1 => [0, 1] | 2 => [] | 3 => [0, 1] | 4 => [0, 1, 5] | 5 => [0, 1, 5] | 6 => [0, 1, 5] | 7 => [] | 8 => [] | _ => []
@[go_sem] def hl121 : Hints
  | 4 => [0, 1, 5] | _ => []
attribute [go_sem] Go.Proofs.Tryz.results121
theorem c121 (l : List GPut) (hl : okSl okGPut l) : CallOK Go.Proofs.Tryz.prog 121 [.d (.sl (GPutS l)), .d (.sl (GPutS l))] [] [.dead, .dead] (.d (.bool true)) [] := by
  have hl1 := hl.1
  refine call_of tysZOK mixedZ Go.Proofs.Tryz.func121 (by kernel_rfl) rfl (np := [false, false]) (by kernel_rfl) hr121 hl121 (by simp [Go.Proofs.Tryz.ntmps121]) ?_
  simp -implicitDefEqProofs (maxSteps := 3000000) only [go_sem, reduceCtorEq, GPutS_length]
  refine loop_data (α := Nat) (fun i => ⟨[(0, .d (.sl (GPutS l))), (1, .d (.sl (GPutS l))), (5, .d (.int .i64 i))], []⟩)
    (fun i => i ≤ l.length) (fun i => l.length - i) 0 rfl (Nat.zero_le _) ?_
  rintro i h2
  simp -implicitDefEqProofs (maxSteps := 3000000) only [go_sem, reduceCtorEq, GPutS_length]
  refine way_dec (fun h5 => ?_) (fun h5 => ?_)
  · obtain ⟨p, hp⟩ := some_at h5
    simp -implicitDefEqProofs (maxSteps := 3000000) only [go_sem, reduceCtorEq, GPutS_length, lget_GPutS hp]
    repeat ((first | refine req (by first | assumption | omega | exact commP_of (by kernel_rfl)) ?_ | refine k151 p rfl (hl.2 p (List.mem_of_getElem? hp)) ?_); simp -implicitDefEqProofs (maxSteps := 3000000) only [go_sem, reduceCtorEq, GPutS_length, lget_GPutS hp, decide_true])
    rw [wrap_succ (by omega)]
    exact next_data (i + 1) rfl (by omega) (by omega)
  · simp -implicitDefEqProofs (maxSteps := 3000000) only [go_sem, reduceCtorEq, GPutS_length]
theorem k121 {h : Heap} {tb : Nat} {K : OK} {args : List V} {ls : List Nat} (l : List GPut) (hg : toDs h args = some ([.sl (GPutS l), .sl (GPutS l)], ls)) (hl : okSl okGPut l)
    (hk : K (.d (.bool true)) []) : callVC Go.Proofs.Tryz.prog h tb 121 args K :=
  call_free hg (c121 l hl) rfl (.inr ⟨.d (.bool _), flatH_nil⟩) hk

@[go_sem] def hr71 : Hints
  | 0 => [0, 1] | 1 => [1, 2] | 2 => [1, 2] | 3 => [] | 4 => [1, 2] | 5 => [1] | 6 => [] | 7 => [1] | _ => []
@[go_sem] def hl71 : Hints := fun _ => []
attribute [go_sem] Go.Proofs.Tryz.results71
set_option maxHeartbeats 1000000 in
theorem c71 (x : GDisk) (left : Int) (hx : okGDisk x) : CallOK Go.Proofs.Tryz.prog 71 [.d (.agg x.cells), .d (.int .i64 left)] [] [.dead, .dead] (.d (.int .i64 (szGDisk x left))) [] := by
  refine call_of tysZOK mixedZ Go.Proofs.Tryz.func71 (by kernel_rfl) rfl (np := [false, false]) (by kernel_rfl) hr71 hl71 (by simp [Go.Proofs.Tryz.ntmps71]) ?_
  obtain ⟨o0, o1⟩ := hx
  simp -implicitDefEqProofs (maxSteps := 3000000) only [go_sem, reduceCtorEq, GDisk.cells]
  refine k42 x.fPages _ rfl o0 ?_
  simp -implicitDefEqProofs (maxSteps := 3000000) only [go_sem, reduceCtorEq]
  refine way_dec (fun h0 => ?_) (fun h0 => ?_)
  · simp -implicitDefEqProofs (maxSteps := 3000000) only [go_sem, reduceCtorEq]
    simp [szGDisk, chain, szTx, sub64, h0]
  · simp -implicitDefEqProofs (maxSteps := 3000000) only [go_sem, reduceCtorEq]
    refine k111 x.fLate _ rfl o1 ?_
    simp -implicitDefEqProofs (maxSteps := 3000000) only [go_sem, reduceCtorEq]
    refine way_dec (fun h1 => ?_) (fun h1 => ?_)
    · simp -implicitDefEqProofs (maxSteps := 3000000) only [go_sem, reduceCtorEq]
      simp [szGDisk, chain, szTx, sub64, h0, h1]
    · simp -implicitDefEqProofs (maxSteps := 3000000) only [go_sem, reduceCtorEq]
      simp [szGDisk, chain, szTx, sub64, h0, h1]
theorem k71 {h : Heap} {tb : Nat} {K : OK} {args : List V} {ls : List Nat} (x : GDisk) (left : Int) (hg : toDs h args = some ([.agg [.sl (strs x.fPages), .sl (GPutS x.fLate)], .int .i64 left], ls)) (hx : okGDisk x)
    (hk : K (.d (.int .i64 (szGDisk x left))) []) : callVC Go.Proofs.Tryz.prog h tb 71 args K :=
  call_free hg (c71 x left hx) rfl (.inr ⟨.d (.int _ _), flatH_nil⟩) hk
@[go_sem] def hr77 : Hints
  | 0 => [0] | 1 => [1, 2] | 2 => [1, 2, 3] | 3 => [1, 2, 3] | 4 => [2, 3] | _ => []
@[go_sem] def hl77 : Hints := fun _ => []
attribute [go_sem] Go.Proofs.Tryz.results77
set_option maxHeartbeats 2000000 in
theorem c77 (x : GDisk) (hx : smallGDisk x) : CallOK Go.Proofs.Tryz.prog 77 [.d (.agg x.cells)] [] [.dead] (.d (.agg x.cells)) [] := by
  refine freeze_agg ?_ rfl
  refine call_of tysZOK mixedZ Go.Proofs.Tryz.func77 (by kernel_rfl) rfl (np := [false]) (by kernel_rfl) hr77 hl77 (by simp [Go.Proofs.Tryz.ntmps77]) ?_
  obtain ⟨o0, o1⟩ := hx
  simp -implicitDefEqProofs (maxSteps := 3000000) only [go_sem, reduceCtorEq, GDisk.cells]
  repeat ((first | refine req (by first | assumption | omega) ?_ | refine k48 x.fPages rfl o0.1 ?_ | refine k115 x.fLate rfl o1 ?_); simp -implicitDefEqProofs (maxSteps := 3000000) only [go_sem, reduceCtorEq])
  all_goals rfl
theorem k77 {h : Heap} {tb : Nat} {K : OK} {args : List V} (x : GDisk) (hg : toDs h args = some ([.agg [.sl (strs x.fPages), .sl (GPutS x.fLate)]], [])) (hx : smallGDisk x)
    (hk : K (.d (.agg [.sl (strs x.fPages), .sl (GPutS x.fLate)])) []) : callVC Go.Proofs.Tryz.prog h tb 77 args K :=
  call_free hg (c77 x hx) rfl (.inl rfl) hk
@[go_sem] def hr85 : Hints
  | 0 => [0, 1] | 1 => [2, 3] | 2 => [] | 3 => [2, 3] | 4 => [] | 5 => [] | _ => []
@[go_sem] def hl85 : Hints := fun _ => []
attribute [go_sem] Go.Proofs.Tryz.results85
set_option maxHeartbeats 2000000 in
theorem c85 (x : GDisk) (hx : okGDisk x) : CallOK Go.Proofs.Tryz.prog 85 [.d (.agg x.cells), .d (.agg x.cells)] [] [.dead, .dead] (.d (.bool true)) [] := by
  refine call_of tysZOK mixedZ Go.Proofs.Tryz.func85 (by kernel_rfl) rfl (np := [false, false]) (by kernel_rfl) hr85 hl85 (by simp [Go.Proofs.Tryz.ntmps85]) ?_
  obtain ⟨o0, o1⟩ := hx
  simp -implicitDefEqProofs (maxSteps := 3000000) only [go_sem, reduceCtorEq, GDisk.cells, decide_true]
  repeat ((first | refine req (by first | assumption | omega) ?_ | refine k54 x.fPages rfl o0.1 ?_ | refine k121 x.fLate rfl o1 ?_); simp -implicitDefEqProofs (maxSteps := 3000000) only [go_sem, reduceCtorEq, decide_true, beq_self_eq_true])
theorem k85 {h : Heap} {tb : Nat} {K : OK} {args : List V} {ls : List Nat} (x : GDisk) (hg : toDs h args = some ([.agg [.sl (strs x.fPages), .sl (GPutS x.fLate)], .agg [.sl (strs x.fPages), .sl (GPutS x.fLate)]], ls)) (hx : okGDisk x)
    (hk : K (.d (.bool true)) []) : callVC Go.Proofs.Tryz.prog h tb 85 args K :=
  call_free hg (c85 x hx) rfl (.inr ⟨.d (.bool _), flatH_nil⟩) hk

@[go_sem] def hr147 : Hints
  | 0 => [0, 1] | 1 => [1, 2] | 2 => [1] | 3 => [] | 4 => [1] | _ => []
@[go_sem] def hl147 : Hints := fun _ => []
attribute [go_sem] Go.Proofs.Tryz.results147
set_option maxHeartbeats 1000000 in
theorem c147 (x : GFree) (left : Int) (hx : okGFree x) : CallOK Go.Proofs.Tryz.prog 147 [.d (.agg x.cells), .d (.int .i64 left)] [] [.dead, .dead] (.d (.int .i64 (szGFree x left))) [] := by
  refine call_of tysZOK mixedZ Go.Proofs.Tryz.func147 (by kernel_rfl) rfl (np := [false, false]) (by kernel_rfl) hr147 hl147 (by simp [Go.Proofs.Tryz.ntmps147]) ?_
  have o0 := hx
  simp -implicitDefEqProofs (maxSteps := 3000000) only [go_sem, reduceCtorEq, GFree.cells]
  refine k41 x.fPages _ rfl ?_
  simp -implicitDefEqProofs (maxSteps := 3000000) only [go_sem, reduceCtorEq]
  refine way_dec (fun h0 => ?_) (fun h0 => ?_)
  · simp -implicitDefEqProofs (maxSteps := 3000000) only [go_sem, reduceCtorEq]
    simp [szGFree, chain, szTx, sub64, h0]
  · simp -implicitDefEqProofs (maxSteps := 3000000) only [go_sem, reduceCtorEq]
    simp [szGFree, chain, szTx, sub64, h0]
theorem k147 {h : Heap} {tb : Nat} {K : OK} {args : List V} {ls : List Nat} (x : GFree) (left : Int) (hg : toDs h args = some ([.agg [.int .i64 x.fTx, .sl (ints x.fPages)], .int .i64 left], ls)) (hx : okGFree x)
    (hk : K (.d (.int .i64 (szGFree x left))) []) : callVC Go.Proofs.Tryz.prog h tb 147 args K :=
  call_free hg (c147 x left hx) rfl (.inr ⟨.d (.int _ _), flatH_nil⟩) hk
@[go_sem] def hr149 : Hints
  | 0 => [0] | 1 => [1, 2] | 2 => [1, 2, 3] | 3 => [1, 2, 3] | 4 => [2, 3] | _ => []
@[go_sem] def hl149 : Hints := fun _ => []
attribute [go_sem] Go.Proofs.Tryz.results149
set_option maxHeartbeats 2000000 in
theorem c149 (x : GFree) (hx : smallGFree x) : CallOK Go.Proofs.Tryz.prog 149 [.d (.agg x.cells)] [] [.dead] (.d (.agg x.cells)) [] := by
  refine freeze_agg ?_ rfl
  refine call_of tysZOK mixedZ Go.Proofs.Tryz.func149 (by kernel_rfl) rfl (np := [false]) (by kernel_rfl) hr149 hl149 (by simp [Go.Proofs.Tryz.ntmps149]) ?_
  have o0 := hx
  simp -implicitDefEqProofs (maxSteps := 3000000) only [go_sem, reduceCtorEq, GFree.cells]
  repeat ((first | refine req (by first | assumption | omega) ?_ | refine k47 x.fPages rfl o0 ?_); simp -implicitDefEqProofs (maxSteps := 3000000) only [go_sem, reduceCtorEq])
  all_goals rfl
theorem k149 {h : Heap} {tb : Nat} {K : OK} {args : List V} (x : GFree) (hg : toDs h args = some ([.agg [.int .i64 x.fTx, .sl (ints x.fPages)]], [])) (hx : smallGFree x)
    (hk : K (.d (.agg [.int .i64 x.fTx, .sl (ints x.fPages)])) []) : callVC Go.Proofs.Tryz.prog h tb 149 args K :=
  call_free hg (c149 x hx) rfl (.inl rfl) hk
@[go_sem] def hr152 : Hints
  | 0 => [0, 1] | 1 => [2, 3] | 2 => [] | 3 => [2, 3] | 4 => [] | 5 => [] | _ => []
@[go_sem] def hl152 : Hints := fun _ => []
attribute [go_sem] Go.Proofs.Tryz.results152
set_option maxHeartbeats 2000000 in
theorem c152 (x : GFree) (hx : okGFree x) : CallOK Go.Proofs.Tryz.prog 152 [.d (.agg x.cells), .d (.agg x.cells)] [] [.dead, .dead] (.d (.bool true)) [] := by
  refine call_of tysZOK mixedZ Go.Proofs.Tryz.func152 (by kernel_rfl) rfl (np := [false, false]) (by kernel_rfl) hr152 hl152 (by simp [Go.Proofs.Tryz.ntmps152]) ?_
  have o0 := hx
  simp -implicitDefEqProofs (maxSteps := 3000000) only [go_sem, reduceCtorEq, GFree.cells, decide_true]
  repeat ((first | refine req (by first | assumption | omega) ?_ | refine k53 x.fPages rfl o0 ?_); simp -implicitDefEqProofs (maxSteps := 3000000) only [go_sem, reduceCtorEq, decide_true, beq_self_eq_true])
theorem k152 {h : Heap} {tb : Nat} {K : OK} {args : List V} {ls : List Nat} (x : GFree) (hg : toDs h args = some ([.agg [.int .i64 x.fTx, .sl (ints x.fPages)], .agg [.int .i64 x.fTx, .sl (ints x.fPages)]], ls)) (hx : okGFree x)
    (hk : K (.d (.bool true)) []) : callVC Go.Proofs.Tryz.prog h tb 152 args K :=
  call_free hg (c152 x hx) rfl (.inr ⟨.d (.bool _), flatH_nil⟩) hk

@[go_sem] def hr112 : Hints
  | 0 => [0, 1] | 1 => [0, 1] | 2 => [0, 1] | 3 => [] | 4 => [0, 1] | 5 => [0, 1, 5] | 6 => [0, 1, 5] | 7 => [0, 1, 5] | 8 => [0, 1, 5] | 9 => [] | 10 => [1] | _ => []
@[go_sem] def hl112 : Hints
  | 5 => [0, 1, 5] | _ => []
attribute [go_sem] Go.Proofs.Tryz.results112
theorem c112 (l : List GFree) (left : Int) (hl : okSl okGFree l) : CallOK Go.Proofs.Tryz.prog 112 [.d (.sl (GFreeS l)), .d (.int .i64 left)] [] [.dead, .dead] (.d (.int .i64 (szSl szGFree l left))) [] := by
  refine call_of tysZOK mixedZ Go.Proofs.Tryz.func112 (by kernel_rfl) rfl (np := [false, false]) (by kernel_rfl) hr112 hl112 (by simp [Go.Proofs.Tryz.ntmps112]) ?_
  simp -implicitDefEqProofs (maxSteps := 3000000) only [go_sem, reduceCtorEq, GFreeS_length]
  refine way_dec (fun h1 => ?_) (fun h1 => ?_)
  · simp -implicitDefEqProofs (maxSteps := 3000000) only [go_sem, reduceCtorEq]
    simp [szSl, sub64, h1]
  · simp -implicitDefEqProofs (maxSteps := 3000000) only [go_sem, reduceCtorEq]
    refine loop_data (α := Nat × Int) (fun x => ⟨[(0, .d (.sl (GFreeS l))), (1, .d (.int .i64 x.2)), (5, .d (.int .i64 x.1))], []⟩)
      (fun x => x.1 ≤ l.length ∧ chainL szGFree (l.drop x.1) x.2 = szSl szGFree l left) (fun x => l.length - x.1) (0, IntKind.i64.wrap (left - l.length)) rfl ⟨Nat.zero_le _, by simp [szSl, sub64, h1]⟩ ?_
    rintro ⟨i, lf⟩ ⟨h2, h3⟩
    simp -implicitDefEqProofs (maxSteps := 3000000) only [go_sem, reduceCtorEq, GFreeS_length]
    refine way_dec (fun h4 => ?_) (fun h4 => ?_)
    · obtain ⟨p, hp⟩ := some_at h4
      rw [drop_cons hp] at h3
      simp -implicitDefEqProofs (maxSteps := 3000000) only [go_sem, reduceCtorEq, GFreeS_length, lget_GFreeS hp]
      repeat ((first | refine req (by first | assumption | omega) ?_ | refine k147 p _ rfl (hl.2 p (List.mem_of_getElem? hp)) ?_); simp -implicitDefEqProofs (maxSteps := 3000000) only [go_sem, reduceCtorEq, GFreeS_length, lget_GFreeS hp])
      refine way_dec (fun h5 => ?_) (fun h5 => ?_)
      · simp -implicitDefEqProofs (maxSteps := 3000000) only [go_sem, reduceCtorEq]
        rw [← h3, chainL_neg (f := szGFree) (a := p) (l := lf) h5]
      · simp -implicitDefEqProofs (maxSteps := 3000000) only [go_sem, reduceCtorEq]
        refine next_data (i + 1, szGFree p lf) ?_ ⟨?_, ?_⟩ ?_
        · first | (simp only [wrap_succ (show i < LEN by have := hl.1; omega)]; done) | (simp only [wrap_succ (show i < LEN by have := hl.1; omega)]; rfl)
        · simp only; omega
        · rw [← h3]; exact (chainL_pos (f := szGFree) (a := p) (l := lf) h5).symm
        · simp only; omega
    · simp -implicitDefEqProofs (maxSteps := 3000000) only [go_sem, reduceCtorEq, GFreeS_length]
      rw [List.drop_eq_nil_of_le (by omega)] at h3
      rw [← h3]; rfl
theorem k112 {h : Heap} {tb : Nat} {K : OK} {args : List V} {ls : List Nat} (l : List GFree) (left : Int) (hg : toDs h args = some ([.sl (GFreeS l), .int .i64 left], ls)) (hl : okSl okGFree l)
    (hk : K (.d (.int .i64 (szSl szGFree l left))) []) : callVC Go.Proofs.Tryz.prog h tb 112 args K :=
  call_free hg (c112 l left hl) rfl (.inr ⟨.d (.int _ _), flatH_nil⟩) hk
@[go_sem] def hr116 : Hints
  | 0 => [0] | 1 => [0] | 2 => [0, 3] | 3 => [0, 3, 4] | 4 => [0, 3, 4] | 5 => [0, 3, 4] | 6 => [3] | _ => []
@[go_sem] def hl116 : Hints
  | 3 => [0, 3, 4] | _ => []
attribute [go_sem] Go.Proofs.Tryz.results116
theorem c116 (l : List GFree) (hl : smallSl smallGFree l) : CallOK Go.Proofs.Tryz.prog 116 [.d (.sl (GFreeS l))] [] [.dead] (.d (.sl (GFreeS l))) [] := by
  have hl1 := hl.1
  refine freeze_own (m := 2) (n := l.length) ?_ GFreeS_length.symm rfl
  refine call_of tysZOK mixedZ Go.Proofs.Tryz.func116 (by kernel_rfl) rfl (np := [false]) (by kernel_rfl) hr116 hl116 (by simp [Go.Proofs.Tryz.ntmps116]) ?_
  simp -implicitDefEqProofs (maxSteps := 3000000) only [go_sem, reduceCtorEq, GFreeS_length]
  repeat ((first | refine req (by first | assumption | omega) ?_); simp -implicitDefEqProofs (maxSteps := 3000000) only [go_sem, reduceCtorEq, GFreeS_length])
  rw [GFreeS_zero]
  refine loop_data (α := Nat × List (GFree)) (fun x => ⟨[(0, .d (.sl (GFreeS l))), (3, .own 0 0 l.length), (4, .d (.int .i64 x.1))], [(0, some (.arr 2 (GFreeS x.2)))]⟩)
    (fun x => x.1 ≤ l.length ∧ x.2.length = l.length ∧ x.2.take x.1 = l.take x.1) (fun x => l.length - x.1) (0, _) rfl ⟨Nat.zero_le _, by simp, by simp⟩ ?_
  rintro ⟨i, m⟩ ⟨h2, h3, h4⟩
  simp only at h2 h3 h4
  simp -implicitDefEqProofs (maxSteps := 3000000) only [go_sem, reduceCtorEq, GFreeS_length]
  refine way_dec (fun h5 => ?_) (fun h5 => ?_)
  · obtain ⟨p, hp⟩ := some_at h5
    obtain ⟨q, hq⟩ := some_at (l := m) (h3 ▸ h5)
    simp -implicitDefEqProofs (maxSteps := 3000000) only [go_sem, reduceCtorEq, GFreeS_length, lget_GFreeS hp]
    repeat ((first | refine req (by first | assumption | omega) ?_ | refine k149 p rfl (hl.2 p (List.mem_of_getElem? hp)) ?_); simp -implicitDefEqProofs (maxSteps := 3000000) only [go_sem, reduceCtorEq, GFreeS_length, lget_GFreeS hp, lget_GFreeS hq])
    rw [wrap_succ (by simp only [LEN]; omega)]
    try rw [GFreeS_set (p := p)]
    refine next_data (i + 1, m.set i p) rfl ⟨?_, by simpa using h3, take_set hp h3 h4⟩ ?_
    · simp only; omega
    · simp only; omega
  · simp -implicitDefEqProofs (maxSteps := 3000000) only [go_sem, reduceCtorEq, GFreeS_length]
    rw [List.take_of_length_le (by omega), List.take_of_length_le (by omega)] at h4
    rw [h4]
theorem k116 {h : Heap} {tb : Nat} {K : OK} {args : List V} (l : List GFree) (hg : toDs h args = some ([.sl (GFreeS l)], [])) (hl : smallSl smallGFree l)
    (hk : K (.d (.sl (GFreeS l))) []) : callVC Go.Proofs.Tryz.prog h tb 116 args K :=
  call_free hg (c116 l hl) rfl (.inl rfl) hk
@[go_sem] def hr122 : Hints
  | 0 => [0, 1] | 1 => [0, 1] | 2 => [] | 3 => [0, 1] | 4 => [0, 1, 5] | 5 => [0, 1, 5] | 6 => [0, 1, 5] | 7 => [] | 8 => [] | _ => []
@[go_sem] def hl122 : Hints
  | 4 => [0, 1, 5] | _ => []
attribute [go_sem] Go.Proofs.Tryz.results122
theorem c122 (l : List GFree) (hl : okSl okGFree l) : CallOK Go.Proofs.Tryz.prog 122 [.d (.sl (GFreeS l)), .d (.sl (GFreeS l))] [] [.dead, .dead] (.d (.bool true)) [] := by
  have hl1 := hl.1
  refine call_of tysZOK mixedZ Go.Proofs.Tryz.func122 (by kernel_rfl) rfl (np := [false, false]) (by kernel_rfl) hr122 hl122 (by simp [Go.Proofs.Tryz.ntmps122]) ?_
  simp -implicitDefEqProofs (maxSteps := 3000000) only [go_sem, reduceCtorEq, GFreeS_length]
  refine loop_data (α := Nat) (fun i => ⟨[(0, .d (.sl (GFreeS l))), (1, .d (.sl (GFreeS l))), (5, .d (.int .i64 i))], []⟩)
    (fun i => i ≤ l.length) (fun i => l.length - i) 0 rfl (Nat.zero_le _) ?_
  rintro i h2
  simp -implicitDefEqProofs (maxSteps := 3000000) only [go_sem, reduceCtorEq, GFreeS_length]
  refine way_dec (fun h5 => ?_) (fun h5 => ?_)
  · obtain ⟨p, hp⟩ := some_at h5
    simp -implicitDefEqProofs (maxSteps := 3000000) only [go_sem, reduceCtorEq, GFreeS_length, lget_GFreeS hp]
    repeat ((first | refine req (by first | assumption | omega | exact commP_of (by kernel_rfl)) ?_ | refine k152 p rfl (hl.2 p (List.mem_of_getElem? hp)) ?_); simp -implicitDefEqProofs (maxSteps := 3000000) only [go_sem, reduceCtorEq, GFreeS_length, lget_GFreeS hp, decide_true])
    rw [wrap_succ (by omega)]
    exact next_data (i + 1) rfl (by omega) (by omega)
  · simp -implicitDefEqProofs (maxSteps := 3000000) only [go_sem, reduceCtorEq, GFreeS_length]
theorem k122 {h : Heap} {tb : Nat} {K : OK} {args : List V} {ls : List Nat} (l : List GFree) (hg : toDs h args = some ([.sl (GFreeS l), .sl (GFreeS l)], ls)) (hl : okSl okGFree l)
    (hk : K (.d (.bool true)) []) : callVC Go.Proofs.Tryz.prog h tb 122 args K :=
  call_free hg (c122 l hl) rfl (.inr ⟨.d (.bool _), flatH_nil⟩) hk

@[go_sem] def hr72 : Hints
  | 0 => [0, 1] | 1 => [1, 2] | 2 => [1] | 3 => [] | 4 => [1] | _ => []
@[go_sem] def hl72 : Hints := fun _ => []
attribute [go_sem] Go.Proofs.Tryz.results72
set_option maxHeartbeats 1000000 in
theorem c72 (x : GMeta) (left : Int) (hx : okGMeta x) : CallOK Go.Proofs.Tryz.prog 72 [.d (.agg x.cells), .d (.int .i64 left)] [] [.dead, .dead] (.d (.int .i64 (szGMeta x left))) [] := by
  refine call_of tysZOK mixedZ Go.Proofs.Tryz.func72 (by kernel_rfl) rfl (np := [false, false]) (by kernel_rfl) hr72 hl72 (by simp [Go.Proofs.Tryz.ntmps72]) ?_
  have o0 := hx
  simp -implicitDefEqProofs (maxSteps := 3000000) only [go_sem, reduceCtorEq, GMeta.cells]
  refine k112 x.fFrees _ rfl o0 ?_
  simp -implicitDefEqProofs (maxSteps := 3000000) only [go_sem, reduceCtorEq]
  refine way_dec (fun h0 => ?_) (fun h0 => ?_)
  · simp -implicitDefEqProofs (maxSteps := 3000000) only [go_sem, reduceCtorEq]
    simp [szGMeta, chain, szTx, sub64, h0]
  · simp -implicitDefEqProofs (maxSteps := 3000000) only [go_sem, reduceCtorEq]
    simp [szGMeta, chain, szTx, sub64, h0]
theorem k72 {h : Heap} {tb : Nat} {K : OK} {args : List V} {ls : List Nat} (x : GMeta) (left : Int) (hg : toDs h args = some ([.agg [.int .i64 x.fTx, .int .i64 x.fRoot, .int .i64 x.fNext, .sl (GFreeS x.fFrees)], .int .i64 left], ls)) (hx : okGMeta x)
    (hk : K (.d (.int .i64 (szGMeta x left))) []) : callVC Go.Proofs.Tryz.prog h tb 72 args K :=
  call_free hg (c72 x left hx) rfl (.inr ⟨.d (.int _ _), flatH_nil⟩) hk
@[go_sem] def hr78 : Hints
  | 0 => [0] | 1 => [1, 2] | 2 => [1, 2, 3] | 3 => [1, 2, 3] | 4 => [1, 2, 3] | 5 => [1, 2, 3] | 6 => [2, 3] | _ => []
@[go_sem] def hl78 : Hints := fun _ => []
attribute [go_sem] Go.Proofs.Tryz.results78
set_option maxHeartbeats 2000000 in
theorem c78 (x : GMeta) (hx : smallGMeta x) : CallOK Go.Proofs.Tryz.prog 78 [.d (.agg x.cells)] [] [.dead] (.d (.agg x.cells)) [] := by
  refine freeze_agg ?_ rfl
  refine call_of tysZOK mixedZ Go.Proofs.Tryz.func78 (by kernel_rfl) rfl (np := [false]) (by kernel_rfl) hr78 hl78 (by simp [Go.Proofs.Tryz.ntmps78]) ?_
  have o0 := hx
  simp -implicitDefEqProofs (maxSteps := 3000000) only [go_sem, reduceCtorEq, GMeta.cells]
  repeat ((first | refine req (by first | assumption | omega) ?_ | refine k116 x.fFrees rfl o0 ?_); simp -implicitDefEqProofs (maxSteps := 3000000) only [go_sem, reduceCtorEq])
  all_goals rfl
theorem k78 {h : Heap} {tb : Nat} {K : OK} {args : List V} (x : GMeta) (hg : toDs h args = some ([.agg [.int .i64 x.fTx, .int .i64 x.fRoot, .int .i64 x.fNext, .sl (GFreeS x.fFrees)]], [])) (hx : smallGMeta x)
    (hk : K (.d (.agg [.int .i64 x.fTx, .int .i64 x.fRoot, .int .i64 x.fNext, .sl (GFreeS x.fFrees)])) []) : callVC Go.Proofs.Tryz.prog h tb 78 args K :=
  call_free hg (c78 x hx) rfl (.inl rfl) hk
@[go_sem] def hr86 : Hints
  | 0 => [0, 1] | 1 => [2, 3] | 2 => [] | 3 => [2, 3] | 4 => [] | 5 => [2, 3] | 6 => [] | 7 => [2, 3] | 8 => [] | 9 => [] | _ => []
@[go_sem] def hl86 : Hints := fun _ => []
attribute [go_sem] Go.Proofs.Tryz.results86
set_option maxHeartbeats 2000000 in
theorem c86 (x : GMeta) (hx : okGMeta x) : CallOK Go.Proofs.Tryz.prog 86 [.d (.agg x.cells), .d (.agg x.cells)] [] [.dead, .dead] (.d (.bool true)) [] := by
  refine call_of tysZOK mixedZ Go.Proofs.Tryz.func86 (by kernel_rfl) rfl (np := [false, false]) (by kernel_rfl) hr86 hl86 (by simp [Go.Proofs.Tryz.ntmps86]) ?_
  have o0 := hx
  simp -implicitDefEqProofs (maxSteps := 3000000) only [go_sem, reduceCtorEq, GMeta.cells, decide_true]
  repeat ((first | refine req (by first | assumption | omega) ?_ | refine k122 x.fFrees rfl o0 ?_); simp -implicitDefEqProofs (maxSteps := 3000000) only [go_sem, reduceCtorEq, decide_true, beq_self_eq_true])
theorem k86 {h : Heap} {tb : Nat} {K : OK} {args : List V} {ls : List Nat} (x : GMeta) (hg : toDs h args = some ([.agg [.int .i64 x.fTx, .int .i64 x.fRoot, .int .i64 x.fNext, .sl (GFreeS x.fFrees)], .agg [.int .i64 x.fTx, .int .i64 x.fRoot, .int .i64 x.fNext, .sl (GFreeS x.fFrees)]], ls)) (hx : okGMeta x)
    (hk : K (.d (.bool true)) []) : callVC Go.Proofs.Tryz.prog h tb 86 args K :=
  call_free hg (c86 x hx) rfl (.inr ⟨.d (.bool _), flatH_nil⟩) hk

end Go.Rx

namespace Go.Rx
open Go
attribute [local irreducible] Req Way WayG Sel callVC CallOK
set_option linter.unusedSimpArgs false
set_option linter.unusedVariables false
@[go_sem] def hr113 : Hints
  | 0 => [0, 1] | 1 => [1, 2] | 2 => [1] | 3 => [] | 4 => [1] | _ => []
@[go_sem] def hl113 : Hints := fun _ => []
attribute [go_sem] Go.Proofs.Tryz.results113
set_option maxHeartbeats 1000000 in
theorem c113 (x : GReader) (left : Int) (hx : okGReader x) : CallOK Go.Proofs.Tryz.prog 113 [.d (.agg x.cells), .d (.int .i64 left)] [] [.dead, .dead] (.d (.int .i64 (szGReader x left))) [] := by
  refine call_of tysZOK mixedZ Go.Proofs.Tryz.func113 (by kernel_rfl) rfl (np := [false, false]) (by kernel_rfl) hr113 hl113 (by simp [Go.Proofs.Tryz.ntmps113]) ?_
  have o0 := hx
  simp -implicitDefEqProofs (maxSteps := 3000000) only [go_sem, reduceCtorEq, GReader.cells]
  refine k72 x.fMeta _ rfl o0 ?_
  simp -implicitDefEqProofs (maxSteps := 3000000) only [go_sem, reduceCtorEq]
  refine way_dec (fun h0 => ?_) (fun h0 => ?_)
  · simp -implicitDefEqProofs (maxSteps := 3000000) only [go_sem, reduceCtorEq]
    simp [szGReader, chain, szTx, sub64, h0]
  · simp -implicitDefEqProofs (maxSteps := 3000000) only [go_sem, reduceCtorEq]
    simp [szGReader, chain, szTx, sub64, h0]
theorem k113 {h : Heap} {tb : Nat} {K : OK} {args : List V} {ls : List Nat} (x : GReader) (left : Int) (hg : toDs h args = some ([.agg [.int .i64 x.fId, .int .i64 x.fMeta.fTx, .int .i64 x.fMeta.fRoot, .int .i64 x.fMeta.fNext, .sl (GFreeS x.fMeta.fFrees)], .int .i64 left], ls)) (hx : okGReader x)
    (hk : K (.d (.int .i64 (szGReader x left))) []) : callVC Go.Proofs.Tryz.prog h tb 113 args K :=
  call_free hg (c113 x left hx) rfl (.inr ⟨.d (.int _ _), flatH_nil⟩) hk
@[go_sem] def hr117 : Hints
  | 0 => [0] | 1 => [1, 2] | 2 => [1, 2, 3] | 3 => [1, 2, 3] | 4 => [2, 3] | _ => []
@[go_sem] def hl117 : Hints := fun _ => []
attribute [go_sem] Go.Proofs.Tryz.results117
set_option maxHeartbeats 2000000 in
theorem c117 (x : GReader) (hx : smallGReader x) : CallOK Go.Proofs.Tryz.prog 117 [.d (.agg x.cells)] [] [.dead] (.d (.agg x.cells)) [] := by
  refine freeze_agg ?_ rfl
  refine call_of tysZOK mixedZ Go.Proofs.Tryz.func117 (by kernel_rfl) rfl (np := [false]) (by kernel_rfl) hr117 hl117 (by simp [Go.Proofs.Tryz.ntmps117]) ?_
  have o0 := hx
  simp -implicitDefEqProofs (maxSteps := 3000000) only [go_sem, reduceCtorEq, GReader.cells]
  repeat ((first | refine req (by first | assumption | omega) ?_ | refine k78 x.fMeta rfl o0 ?_); simp -implicitDefEqProofs (maxSteps := 3000000) only [go_sem, reduceCtorEq])
  all_goals rfl
theorem k117 {h : Heap} {tb : Nat} {K : OK} {args : List V} (x : GReader) (hg : toDs h args = some ([.agg [.int .i64 x.fId, .int .i64 x.fMeta.fTx, .int .i64 x.fMeta.fRoot, .int .i64 x.fMeta.fNext, .sl (GFreeS x.fMeta.fFrees)]], [])) (hx : smallGReader x)
    (hk : K (.d (.agg [.int .i64 x.fId, .int .i64 x.fMeta.fTx, .int .i64 x.fMeta.fRoot, .int .i64 x.fMeta.fNext, .sl (GFreeS x.fMeta.fFrees)])) []) : callVC Go.Proofs.Tryz.prog h tb 117 args K :=
  call_free hg (c117 x hx) rfl (.inl rfl) hk
@[go_sem] def hr123 : Hints
  | 0 => [0, 1] | 1 => [2, 3] | 2 => [] | 3 => [2, 3] | 4 => [] | 5 => [] | _ => []
@[go_sem] def hl123 : Hints := fun _ => []
attribute [go_sem] Go.Proofs.Tryz.results123
set_option maxHeartbeats 2000000 in
theorem c123 (x : GReader) (hx : okGReader x) : CallOK Go.Proofs.Tryz.prog 123 [.d (.agg x.cells), .d (.agg x.cells)] [] [.dead, .dead] (.d (.bool true)) [] := by
  refine call_of tysZOK mixedZ Go.Proofs.Tryz.func123 (by kernel_rfl) rfl (np := [false, false]) (by kernel_rfl) hr123 hl123 (by simp [Go.Proofs.Tryz.ntmps123]) ?_
  have o0 := hx
  simp -implicitDefEqProofs (maxSteps := 3000000) only [go_sem, reduceCtorEq, GReader.cells, decide_true]
  repeat ((first | refine req (by first | assumption | omega) ?_ | refine k86 x.fMeta rfl o0 ?_); simp -implicitDefEqProofs (maxSteps := 3000000) only [go_sem, reduceCtorEq, decide_true, beq_self_eq_true])
theorem k123 {h : Heap} {tb : Nat} {K : OK} {args : List V} {ls : List Nat} (x : GReader) (hg : toDs h args = some ([.agg [.int .i64 x.fId, .int .i64 x.fMeta.fTx, .int .i64 x.fMeta.fRoot, .int .i64 x.fMeta.fNext, .sl (GFreeS x.fMeta.fFrees)], .agg [.int .i64 x.fId, .int .i64 x.fMeta.fTx, .int .i64 x.fMeta.fRoot, .int .i64 x.fMeta.fNext, .sl (GFreeS x.fMeta.fFrees)]], ls)) (hx : okGReader x)
    (hk : K (.d (.bool true)) []) : callVC Go.Proofs.Tryz.prog h tb 123 args K :=
  call_free hg (c123 x hx) rfl (.inr ⟨.d (.bool _), flatH_nil⟩) hk

@[go_sem] def hr73 : Hints
  | 0 => [0, 1] | 1 => [0, 1] | 2 => [0, 1] | 3 => [] | 4 => [0, 1] | 5 => [0, 1, 5] | 6 => [0, 1, 5] | 7 => [0, 1, 5] | 8 => [0, 1, 5] | 9 => [] | 10 => [1] | _ => []
@[go_sem] def hl73 : Hints
  | 5 => [0, 1, 5] | _ => []
attribute [go_sem] Go.Proofs.Tryz.results73
theorem c73 (l : List GReader) (left : Int) (hl : okSl okGReader l) : CallOK Go.Proofs.Tryz.prog 73 [.d (.sl (GReaderS l)), .d (.int .i64 left)] [] [.dead, .dead] (.d (.int .i64 (szSl szGReader l left))) [] := by
  refine call_of tysZOK mixedZ Go.Proofs.Tryz.func73 (by kernel_rfl) rfl (np := [false, false]) (by kernel_rfl) hr73 hl73 (by simp [Go.Proofs.Tryz.ntmps73]) ?_
  simp -implicitDefEqProofs (maxSteps := 3000000) only [go_sem, reduceCtorEq, GReaderS_length]
  refine way_dec (fun h1 => ?_) (fun h1 => ?_)
  · simp -implicitDefEqProofs (maxSteps := 3000000) only [go_sem, reduceCtorEq]
    simp [szSl, sub64, h1]
  · simp -implicitDefEqProofs (maxSteps := 3000000) only [go_sem, reduceCtorEq]
    refine loop_data (α := Nat × Int) (fun x => ⟨[(0, .d (.sl (GReaderS l))), (1, .d (.int .i64 x.2)), (5, .d (.int .i64 x.1))], []⟩)
      (fun x => x.1 ≤ l.length ∧ chainL szGReader (l.drop x.1) x.2 = szSl szGReader l left) (fun x => l.length - x.1) (0, IntKind.i64.wrap (left - l.length)) rfl ⟨Nat.zero_le _, by simp [szSl, sub64, h1]⟩ ?_
    rintro ⟨i, lf⟩ ⟨h2, h3⟩
    simp -implicitDefEqProofs (maxSteps := 3000000) only [go_sem, reduceCtorEq, GReaderS_length]
    refine way_dec (fun h4 => ?_) (fun h4 => ?_)
    · obtain ⟨p, hp⟩ := some_at h4
      rw [drop_cons hp] at h3
      simp -implicitDefEqProofs (maxSteps := 3000000) only [go_sem, reduceCtorEq, GReaderS_length, lget_GReaderS hp]
      repeat ((first | refine req (by first | assumption | omega) ?_ | refine k113 p _ rfl (hl.2 p (List.mem_of_getElem? hp)) ?_); simp -implicitDefEqProofs (maxSteps := 3000000) only [go_sem, reduceCtorEq, GReaderS_length, lget_GReaderS hp])
      refine way_dec (fun h5 => ?_) (fun h5 => ?_)
      · simp -implicitDefEqProofs (maxSteps := 3000000) only [go_sem, reduceCtorEq]
        rw [← h3, chainL_neg (f := szGReader) (a := p) (l := lf) h5]
      · simp -implicitDefEqProofs (maxSteps := 3000000) only [go_sem, reduceCtorEq]
        refine next_data (i + 1, szGReader p lf) ?_ ⟨?_, ?_⟩ ?_
        · first | (simp only [wrap_succ (show i < LEN by have := hl.1; omega)]; done) | (simp only [wrap_succ (show i < LEN by have := hl.1; omega)]; rfl)
        · simp only; omega
        · rw [← h3]; exact (chainL_pos (f := szGReader) (a := p) (l := lf) h5).symm
        · simp only; omega
    · simp -implicitDefEqProofs (maxSteps := 3000000) only [go_sem, reduceCtorEq, GReaderS_length]
      rw [List.drop_eq_nil_of_le (by omega)] at h3
      rw [← h3]; rfl
theorem k73 {h : Heap} {tb : Nat} {K : OK} {args : List V} {ls : List Nat} (l : List GReader) (left : Int) (hg : toDs h args = some ([.sl (GReaderS l), .int .i64 left], ls)) (hl : okSl okGReader l)
    (hk : K (.d (.int .i64 (szSl szGReader l left))) []) : callVC Go.Proofs.Tryz.prog h tb 73 args K :=
  call_free hg (c73 l left hl) rfl (.inr ⟨.d (.int _ _), flatH_nil⟩) hk
@[go_sem] def hr79 : Hints
  | 0 => [0] | 1 => [0] | 2 => [0, 3] | 3 => [0, 3, 4] | 4 => [0, 3, 4] | 5 => [0, 3, 4] | 6 => [3] | _ => []
@[go_sem] def hl79 : Hints
  | 3 => [0, 3, 4] | _ => []
attribute [go_sem] Go.Proofs.Tryz.results79
theorem c79 (l : List GReader) (hl : smallSl smallGReader l) : CallOK Go.Proofs.Tryz.prog 79 [.d (.sl (GReaderS l))] [] [.dead] (.d (.sl (GReaderS l))) [] := by
  have hl1 := hl.1
  refine freeze_own (m := 5) (n := l.length) ?_ GReaderS_length.symm rfl
  refine call_of tysZOK mixedZ Go.Proofs.Tryz.func79 (by kernel_rfl) rfl (np := [false]) (by kernel_rfl) hr79 hl79 (by simp [Go.Proofs.Tryz.ntmps79]) ?_
  simp -implicitDefEqProofs (maxSteps := 3000000) only [go_sem, reduceCtorEq, GReaderS_length]
  repeat ((first | refine req (by first | assumption | omega) ?_); simp -implicitDefEqProofs (maxSteps := 3000000) only [go_sem, reduceCtorEq, GReaderS_length])
  rw [GReaderS_zero]
  refine loop_data (α := Nat × List (GReader)) (fun x => ⟨[(0, .d (.sl (GReaderS l))), (3, .own 0 0 l.length), (4, .d (.int .i64 x.1))], [(0, some (.arr 5 (GReaderS x.2)))]⟩)
    (fun x => x.1 ≤ l.length ∧ x.2.length = l.length ∧ x.2.take x.1 = l.take x.1) (fun x => l.length - x.1) (0, _) rfl ⟨Nat.zero_le _, by simp, by simp⟩ ?_
  rintro ⟨i, m⟩ ⟨h2, h3, h4⟩
  simp only at h2 h3 h4
  simp -implicitDefEqProofs (maxSteps := 3000000) only [go_sem, reduceCtorEq, GReaderS_length]
  refine way_dec (fun h5 => ?_) (fun h5 => ?_)
  · obtain ⟨p, hp⟩ := some_at h5
    obtain ⟨q, hq⟩ := some_at (l := m) (h3 ▸ h5)
    simp -implicitDefEqProofs (maxSteps := 3000000) only [go_sem, reduceCtorEq, GReaderS_length, lget_GReaderS hp]
    repeat ((first | refine req (by first | assumption | omega) ?_ | refine k117 p rfl (hl.2 p (List.mem_of_getElem? hp)) ?_); simp -implicitDefEqProofs (maxSteps := 3000000) only [go_sem, reduceCtorEq, GReaderS_length, lget_GReaderS hp, lget_GReaderS hq])
    rw [wrap_succ (by simp only [LEN]; omega)]
    try rw [GReaderS_set (p := p)]
    refine next_data (i + 1, m.set i p) rfl ⟨?_, by simpa using h3, take_set hp h3 h4⟩ ?_
    · simp only; omega
    · simp only; omega
  · simp -implicitDefEqProofs (maxSteps := 3000000) only [go_sem, reduceCtorEq, GReaderS_length]
    rw [List.take_of_length_le (by omega), List.take_of_length_le (by omega)] at h4
    rw [h4]
theorem k79 {h : Heap} {tb : Nat} {K : OK} {args : List V} (l : List GReader) (hg : toDs h args = some ([.sl (GReaderS l)], [])) (hl : smallSl smallGReader l)
    (hk : K (.d (.sl (GReaderS l))) []) : callVC Go.Proofs.Tryz.prog h tb 79 args K :=
  call_free hg (c79 l hl) rfl (.inl rfl) hk
@[go_sem] def hr87 : Hints
  | 0 => [0, 1] | 1 => [0, 1] | 2 => [] | 3 => [0, 1] | 4 => [0, 1, 5] | 5 => [0, 1, 5] | 6 => [0, 1, 5] | 7 => [] | 8 => [] | _ => []
@[go_sem] def hl87 : Hints
  | 4 => [0, 1, 5] | _ => []
attribute [go_sem] Go.Proofs.Tryz.results87
theorem c87 (l : List GReader) (hl : okSl okGReader l) : CallOK Go.Proofs.Tryz.prog 87 [.d (.sl (GReaderS l)), .d (.sl (GReaderS l))] [] [.dead, .dead] (.d (.bool true)) [] := by
  have hl1 := hl.1
  refine call_of tysZOK mixedZ Go.Proofs.Tryz.func87 (by kernel_rfl) rfl (np := [false, false]) (by kernel_rfl) hr87 hl87 (by simp [Go.Proofs.Tryz.ntmps87]) ?_
  simp -implicitDefEqProofs (maxSteps := 3000000) only [go_sem, reduceCtorEq, GReaderS_length]
  refine loop_data (α := Nat) (fun i => ⟨[(0, .d (.sl (GReaderS l))), (1, .d (.sl (GReaderS l))), (5, .d (.int .i64 i))], []⟩)
    (fun i => i ≤ l.length) (fun i => l.length - i) 0 rfl (Nat.zero_le _) ?_
  rintro i h2
  simp -implicitDefEqProofs (maxSteps := 3000000) only [go_sem, reduceCtorEq, GReaderS_length]
  refine way_dec (fun h5 => ?_) (fun h5 => ?_)
  · obtain ⟨p, hp⟩ := some_at h5
    simp -implicitDefEqProofs (maxSteps := 3000000) only [go_sem, reduceCtorEq, GReaderS_length, lget_GReaderS hp]
    repeat ((first | refine req (by first | assumption | omega | exact commP_of (by kernel_rfl)) ?_ | refine k123 p rfl (hl.2 p (List.mem_of_getElem? hp)) ?_); simp -implicitDefEqProofs (maxSteps := 3000000) only [go_sem, reduceCtorEq, GReaderS_length, lget_GReaderS hp, decide_true])
    rw [wrap_succ (by omega)]
    exact next_data (i + 1) rfl (by omega) (by omega)
  · simp -implicitDefEqProofs (maxSteps := 3000000) only [go_sem, reduceCtorEq, GReaderS_length]
theorem k87 {h : Heap} {tb : Nat} {K : OK} {args : List V} {ls : List Nat} (l : List GReader) (hg : toDs h args = some ([.sl (GReaderS l), .sl (GReaderS l)], ls)) (hl : okSl okGReader l)
    (hk : K (.d (.bool true)) []) : callVC Go.Proofs.Tryz.prog h tb 87 args K :=
  call_free hg (c87 l hl) rfl (.inr ⟨.d (.bool _), flatH_nil⟩) hk

@[go_sem] def hr114 : Hints
  | 0 => [0, 1] | 1 => [1, 2] | 2 => [1, 2] | 3 => [] | 4 => [1, 2] | 5 => [1, 2] | 6 => [] | 7 => [1, 2] | 8 => [1, 2] | 9 => [] | 10 => [1, 2] | 11 => [1] | 12 => [] | 13 => [1] | _ => []
@[go_sem] def hl114 : Hints := fun _ => []
attribute [go_sem] Go.Proofs.Tryz.results114
set_option maxHeartbeats 1000000 in
theorem c114 (x : GWork) (left : Int) (hx : okGWork x) : CallOK Go.Proofs.Tryz.prog 114 [.d (.agg x.cells), .d (.int .i64 left)] [] [.dead, .dead] (.d (.int .i64 (szGWork x left))) [] := by
  refine call_of tysZOK mixedZ Go.Proofs.Tryz.func114 (by kernel_rfl) rfl (np := [false, false]) (by kernel_rfl) hr114 hl114 (by simp [Go.Proofs.Tryz.ntmps114]) ?_
  obtain ⟨o0, o1, o2, o3⟩ := hx
  simp -implicitDefEqProofs (maxSteps := 3000000) only [go_sem, reduceCtorEq, GWork.cells]
  refine k71 x.fDisk _ rfl o0 ?_
  simp -implicitDefEqProofs (maxSteps := 3000000) only [go_sem, reduceCtorEq]
  refine way_dec (fun h0 => ?_) (fun h0 => ?_)
  · simp -implicitDefEqProofs (maxSteps := 3000000) only [go_sem, reduceCtorEq]
    simp [szGWork, chain, szTx, sub64, h0]
  · simp -implicitDefEqProofs (maxSteps := 3000000) only [go_sem, reduceCtorEq]
    refine k41 x.fUsable _ rfl ?_
    simp -implicitDefEqProofs (maxSteps := 3000000) only [go_sem, reduceCtorEq]
    refine way_dec (fun h1 => ?_) (fun h1 => ?_)
    · simp -implicitDefEqProofs (maxSteps := 3000000) only [go_sem, reduceCtorEq]
      simp [szGWork, chain, szTx, sub64, h0, h1]
    · simp -implicitDefEqProofs (maxSteps := 3000000) only [go_sem, reduceCtorEq]
      refine k41 x.fGone _ rfl ?_
      simp -implicitDefEqProofs (maxSteps := 3000000) only [go_sem, reduceCtorEq]
      refine way_dec (fun h2 => ?_) (fun h2 => ?_)
      · simp -implicitDefEqProofs (maxSteps := 3000000) only [go_sem, reduceCtorEq]
        simp [szGWork, chain, szTx, sub64, h0, h1, h2]
      · simp -implicitDefEqProofs (maxSteps := 3000000) only [go_sem, reduceCtorEq]
        refine k41 x.fFresh _ rfl ?_
        simp -implicitDefEqProofs (maxSteps := 3000000) only [go_sem, reduceCtorEq]
        refine way_dec (fun h3 => ?_) (fun h3 => ?_)
        · simp -implicitDefEqProofs (maxSteps := 3000000) only [go_sem, reduceCtorEq]
          simp [szGWork, chain, szTx, sub64, h0, h1, h2, h3]
        · simp -implicitDefEqProofs (maxSteps := 3000000) only [go_sem, reduceCtorEq]
          simp [szGWork, chain, szTx, sub64, h0, h1, h2, h3]
theorem k114 {h : Heap} {tb : Nat} {K : OK} {args : List V} {ls : List Nat} (x : GWork) (left : Int) (hg : toDs h args = some ([.agg [.sl (strs x.fDisk.fPages), .sl (GPutS x.fDisk.fLate), .int .i64 x.fNext, .sl (ints x.fUsable), .sl (ints x.fGone), .sl (ints x.fFresh)], .int .i64 left], ls)) (hx : okGWork x)
    (hk : K (.d (.int .i64 (szGWork x left))) []) : callVC Go.Proofs.Tryz.prog h tb 114 args K :=
  call_free hg (c114 x left hx) rfl (.inr ⟨.d (.int _ _), flatH_nil⟩) hk
@[go_sem] def hr118 : Hints
  | 0 => [0] | 1 => [1, 2] | 2 => [1, 2, 3] | 3 => [1, 2, 3] | 4 => [1, 2, 3] | 5 => [1, 2, 3] | 6 => [1, 2, 3] | 7 => [2, 3] | _ => []
@[go_sem] def hl118 : Hints := fun _ => []
attribute [go_sem] Go.Proofs.Tryz.results118
set_option maxHeartbeats 2000000 in
theorem c118 (x : GWork) (hx : smallGWork x) : CallOK Go.Proofs.Tryz.prog 118 [.d (.agg x.cells)] [] [.dead] (.d (.agg x.cells)) [] := by
  refine freeze_agg ?_ rfl
  refine call_of tysZOK mixedZ Go.Proofs.Tryz.func118 (by kernel_rfl) rfl (np := [false]) (by kernel_rfl) hr118 hl118 (by simp [Go.Proofs.Tryz.ntmps118]) ?_
  obtain ⟨o0, o1, o2, o3⟩ := hx
  simp -implicitDefEqProofs (maxSteps := 3000000) only [go_sem, reduceCtorEq, GWork.cells]
  repeat ((first | refine req (by first | assumption | omega) ?_ | refine k77 x.fDisk rfl o0 ?_ | refine k47 x.fUsable rfl o1 ?_ | refine k47 x.fGone rfl o2 ?_ | refine k47 x.fFresh rfl o3 ?_); simp -implicitDefEqProofs (maxSteps := 3000000) only [go_sem, reduceCtorEq])
  all_goals rfl
theorem k118 {h : Heap} {tb : Nat} {K : OK} {args : List V} (x : GWork) (hg : toDs h args = some ([.agg [.sl (strs x.fDisk.fPages), .sl (GPutS x.fDisk.fLate), .int .i64 x.fNext, .sl (ints x.fUsable), .sl (ints x.fGone), .sl (ints x.fFresh)]], [])) (hx : smallGWork x)
    (hk : K (.d (.agg [.sl (strs x.fDisk.fPages), .sl (GPutS x.fDisk.fLate), .int .i64 x.fNext, .sl (ints x.fUsable), .sl (ints x.fGone), .sl (ints x.fFresh)])) []) : callVC Go.Proofs.Tryz.prog h tb 118 args K :=
  call_free hg (c118 x hx) rfl (.inl rfl) hk
@[go_sem] def hr124 : Hints
  | 0 => [0, 1] | 1 => [2, 3] | 2 => [] | 3 => [2, 3] | 4 => [] | 5 => [2, 3] | 6 => [] | 7 => [2, 3] | 8 => [] | 9 => [2, 3] | 10 => [] | 11 => [] | _ => []
@[go_sem] def hl124 : Hints := fun _ => []
attribute [go_sem] Go.Proofs.Tryz.results124
set_option maxHeartbeats 2000000 in
theorem c124 (x : GWork) (hx : okGWork x) : CallOK Go.Proofs.Tryz.prog 124 [.d (.agg x.cells), .d (.agg x.cells)] [] [.dead, .dead] (.d (.bool true)) [] := by
  refine call_of tysZOK mixedZ Go.Proofs.Tryz.func124 (by kernel_rfl) rfl (np := [false, false]) (by kernel_rfl) hr124 hl124 (by simp [Go.Proofs.Tryz.ntmps124]) ?_
  obtain ⟨o0, o1, o2, o3⟩ := hx
  simp -implicitDefEqProofs (maxSteps := 3000000) only [go_sem, reduceCtorEq, GWork.cells, decide_true]
  repeat ((first | refine req (by first | assumption | omega) ?_ | refine k85 x.fDisk rfl o0 ?_ | refine k53 x.fUsable rfl o1 ?_ | refine k53 x.fGone rfl o2 ?_ | refine k53 x.fFresh rfl o3 ?_); simp -implicitDefEqProofs (maxSteps := 3000000) only [go_sem, reduceCtorEq, decide_true, beq_self_eq_true])
theorem k124 {h : Heap} {tb : Nat} {K : OK} {args : List V} {ls : List Nat} (x : GWork) (hg : toDs h args = some ([.agg [.sl (strs x.fDisk.fPages), .sl (GPutS x.fDisk.fLate), .int .i64 x.fNext, .sl (ints x.fUsable), .sl (ints x.fGone), .sl (ints x.fFresh)], .agg [.sl (strs x.fDisk.fPages), .sl (GPutS x.fDisk.fLate), .int .i64 x.fNext, .sl (ints x.fUsable), .sl (ints x.fGone), .sl (ints x.fFresh)]], ls)) (hx : okGWork x)
    (hk : K (.d (.bool true)) []) : callVC Go.Proofs.Tryz.prog h tb 124 args K :=
  call_free hg (c124 x hx) rfl (.inr ⟨.d (.bool _), flatH_nil⟩) hk

@[go_sem] def hr74 : Hints
  | 0 => [0, 1] | 1 => [1, 2] | 2 => [1, 2] | 3 => [] | 4 => [1, 2] | 5 => [1] | 6 => [] | 7 => [1] | _ => []
@[go_sem] def hl74 : Hints := fun _ => []
attribute [go_sem] Go.Proofs.Tryz.results74
set_option maxHeartbeats 1000000 in
theorem c74 (x : GTxn) (left : Int) (hx : okGTxn x) : CallOK Go.Proofs.Tryz.prog 74 [.d (.agg x.cells), .d (.int .i64 left)] [] [.dead, .dead] (.d (.int .i64 (szGTxn x left))) [] := by
  refine call_of tysZOK mixedZ Go.Proofs.Tryz.func74 (by kernel_rfl) rfl (np := [false, false]) (by kernel_rfl) hr74 hl74 (by simp [Go.Proofs.Tryz.ntmps74]) ?_
  obtain ⟨o0, o1⟩ := hx
  simp -implicitDefEqProofs (maxSteps := 3000000) only [go_sem, reduceCtorEq, GTxn.cells]
  refine k72 x.fBase _ rfl o0 ?_
  simp -implicitDefEqProofs (maxSteps := 3000000) only [go_sem, reduceCtorEq]
  refine way_dec (fun h0 => ?_) (fun h0 => ?_)
  · simp -implicitDefEqProofs (maxSteps := 3000000) only [go_sem, reduceCtorEq]
    simp [szGTxn, chain, szTx, sub64, h0]
  · simp -implicitDefEqProofs (maxSteps := 3000000) only [go_sem, reduceCtorEq]
    refine k114 x.fWork _ rfl o1 ?_
    simp -implicitDefEqProofs (maxSteps := 3000000) only [go_sem, reduceCtorEq]
    refine way_dec (fun h1 => ?_) (fun h1 => ?_)
    · simp -implicitDefEqProofs (maxSteps := 3000000) only [go_sem, reduceCtorEq]
      simp [szGTxn, chain, szTx, sub64, h0, h1]
    · simp -implicitDefEqProofs (maxSteps := 3000000) only [go_sem, reduceCtorEq]
      simp [szGTxn, chain, szTx, sub64, h0, h1]
theorem k74 {h : Heap} {tb : Nat} {K : OK} {args : List V} {ls : List Nat} (x : GTxn) (left : Int) (hg : toDs h args = some ([.agg [.int .i64 x.fBase.fTx, .int .i64 x.fBase.fRoot, .int .i64 x.fBase.fNext, .sl (GFreeS x.fBase.fFrees), .sl (strs x.fWork.fDisk.fPages), .sl (GPutS x.fWork.fDisk.fLate), .int .i64 x.fWork.fNext, .sl (ints x.fWork.fUsable), .sl (ints x.fWork.fGone), .sl (ints x.fWork.fFresh), .int .i64 x.fRoot], .int .i64 left], ls)) (hx : okGTxn x)
    (hk : K (.d (.int .i64 (szGTxn x left))) []) : callVC Go.Proofs.Tryz.prog h tb 74 args K :=
  call_free hg (c74 x left hx) rfl (.inr ⟨.d (.int _ _), flatH_nil⟩) hk
@[go_sem] def hr80 : Hints
  | 0 => [0] | 1 => [1, 2] | 2 => [1, 2, 3] | 3 => [1, 2, 3] | 4 => [1, 2, 3] | 5 => [2, 3] | _ => []
@[go_sem] def hl80 : Hints := fun _ => []
attribute [go_sem] Go.Proofs.Tryz.results80
set_option maxHeartbeats 2000000 in
theorem c80 (x : GTxn) (hx : smallGTxn x) : CallOK Go.Proofs.Tryz.prog 80 [.d (.agg x.cells)] [] [.dead] (.d (.agg x.cells)) [] := by
  refine freeze_agg ?_ rfl
  refine call_of tysZOK mixedZ Go.Proofs.Tryz.func80 (by kernel_rfl) rfl (np := [false]) (by kernel_rfl) hr80 hl80 (by simp [Go.Proofs.Tryz.ntmps80]) ?_
  obtain ⟨o0, o1⟩ := hx
  simp -implicitDefEqProofs (maxSteps := 3000000) only [go_sem, reduceCtorEq, GTxn.cells]
  repeat ((first | refine req (by first | assumption | omega) ?_ | refine k78 x.fBase rfl o0 ?_ | refine k118 x.fWork rfl o1 ?_); simp -implicitDefEqProofs (maxSteps := 3000000) only [go_sem, reduceCtorEq])
  all_goals rfl
theorem k80 {h : Heap} {tb : Nat} {K : OK} {args : List V} (x : GTxn) (hg : toDs h args = some ([.agg [.int .i64 x.fBase.fTx, .int .i64 x.fBase.fRoot, .int .i64 x.fBase.fNext, .sl (GFreeS x.fBase.fFrees), .sl (strs x.fWork.fDisk.fPages), .sl (GPutS x.fWork.fDisk.fLate), .int .i64 x.fWork.fNext, .sl (ints x.fWork.fUsable), .sl (ints x.fWork.fGone), .sl (ints x.fWork.fFresh), .int .i64 x.fRoot]], [])) (hx : smallGTxn x)
    (hk : K (.d (.agg [.int .i64 x.fBase.fTx, .int .i64 x.fBase.fRoot, .int .i64 x.fBase.fNext, .sl (GFreeS x.fBase.fFrees), .sl (strs x.fWork.fDisk.fPages), .sl (GPutS x.fWork.fDisk.fLate), .int .i64 x.fWork.fNext, .sl (ints x.fWork.fUsable), .sl (ints x.fWork.fGone), .sl (ints x.fWork.fFresh), .int .i64 x.fRoot])) []) : callVC Go.Proofs.Tryz.prog h tb 80 args K :=
  call_free hg (c80 x hx) rfl (.inl rfl) hk
@[go_sem] def hr88 : Hints
  | 0 => [0, 1] | 1 => [2, 3] | 2 => [] | 3 => [2, 3] | 4 => [] | 5 => [2, 3] | 6 => [] | 7 => [] | _ => []
@[go_sem] def hl88 : Hints := fun _ => []
attribute [go_sem] Go.Proofs.Tryz.results88
set_option maxHeartbeats 2000000 in
theorem c88 (x : GTxn) (hx : okGTxn x) : CallOK Go.Proofs.Tryz.prog 88 [.d (.agg x.cells), .d (.agg x.cells)] [] [.dead, .dead] (.d (.bool true)) [] := by
  refine call_of tysZOK mixedZ Go.Proofs.Tryz.func88 (by kernel_rfl) rfl (np := [false, false]) (by kernel_rfl) hr88 hl88 (by simp [Go.Proofs.Tryz.ntmps88]) ?_
  obtain ⟨o0, o1⟩ := hx
  simp -implicitDefEqProofs (maxSteps := 3000000) only [go_sem, reduceCtorEq, GTxn.cells, decide_true]
  repeat ((first | refine req (by first | assumption | omega) ?_ | refine k86 x.fBase rfl o0 ?_ | refine k124 x.fWork rfl o1 ?_); simp -implicitDefEqProofs (maxSteps := 3000000) only [go_sem, reduceCtorEq, decide_true, beq_self_eq_true])
theorem k88 {h : Heap} {tb : Nat} {K : OK} {args : List V} {ls : List Nat} (x : GTxn) (hg : toDs h args = some ([.agg [.int .i64 x.fBase.fTx, .int .i64 x.fBase.fRoot, .int .i64 x.fBase.fNext, .sl (GFreeS x.fBase.fFrees), .sl (strs x.fWork.fDisk.fPages), .sl (GPutS x.fWork.fDisk.fLate), .int .i64 x.fWork.fNext, .sl (ints x.fWork.fUsable), .sl (ints x.fWork.fGone), .sl (ints x.fWork.fFresh), .int .i64 x.fRoot], .agg [.int .i64 x.fBase.fTx, .int .i64 x.fBase.fRoot, .int .i64 x.fBase.fNext, .sl (GFreeS x.fBase.fFrees), .sl (strs x.fWork.fDisk.fPages), .sl (GPutS x.fWork.fDisk.fLate), .int .i64 x.fWork.fNext, .sl (ints x.fWork.fUsable), .sl (ints x.fWork.fGone), .sl (ints x.fWork.fFresh), .int .i64 x.fRoot]], ls)) (hx : okGTxn x)
    (hk : K (.d (.bool true)) []) : callVC Go.Proofs.Tryz.prog h tb 88 args K :=
  call_free hg (c88 x hx) rfl (.inr ⟨.d (.bool _), flatH_nil⟩) hk

@[go_sem] def hr38 : Hints
  | 0 => [0, 1] | 1 => [1, 2] | 2 => [1, 2] | 3 => [] | 4 => [1, 2] | 5 => [1, 2] | 6 => [] | 7 => [1, 2] | 8 => [1, 2] | 9 => [] | 10 => [1, 2] | 11 => [1] | 12 => [] | 13 => [1] | _ => []
@[go_sem] def hl38 : Hints := fun _ => []
attribute [go_sem] Go.Proofs.Tryz.results38
set_option maxHeartbeats 1000000 in
theorem c38 (x : GStore) (left : Int) (hx : okGStore x) : CallOK Go.Proofs.Tryz.prog 38 [.d (.agg x.cells), .d (.int .i64 left)] [] [.dead, .dead] (.d (.int .i64 (szGStore x left))) [] := by
  refine call_of tysZOK mixedZ Go.Proofs.Tryz.func38 (by kernel_rfl) rfl (np := [false, false]) (by kernel_rfl) hr38 hl38 (by simp [Go.Proofs.Tryz.ntmps38]) ?_
  obtain ⟨o0, o1, o2, o3⟩ := hx
  simp -implicitDefEqProofs (maxSteps := 3000000) only [go_sem, reduceCtorEq, GStore.cells]
  refine k71 x.fDisk _ rfl o0 ?_
  simp -implicitDefEqProofs (maxSteps := 3000000) only [go_sem, reduceCtorEq]
  refine way_dec (fun h0 => ?_) (fun h0 => ?_)
  · simp -implicitDefEqProofs (maxSteps := 3000000) only [go_sem, reduceCtorEq]
    simp [szGStore, chain, szTx, sub64, h0]
  · simp -implicitDefEqProofs (maxSteps := 3000000) only [go_sem, reduceCtorEq]
    refine k72 x.fMeta _ rfl o1 ?_
    simp -implicitDefEqProofs (maxSteps := 3000000) only [go_sem, reduceCtorEq]
    refine way_dec (fun h1 => ?_) (fun h1 => ?_)
    · simp -implicitDefEqProofs (maxSteps := 3000000) only [go_sem, reduceCtorEq]
      simp [szGStore, chain, szTx, sub64, h0, h1]
    · simp -implicitDefEqProofs (maxSteps := 3000000) only [go_sem, reduceCtorEq]
      refine k73 x.fReaders _ rfl o2 ?_
      simp -implicitDefEqProofs (maxSteps := 3000000) only [go_sem, reduceCtorEq]
      refine way_dec (fun h2 => ?_) (fun h2 => ?_)
      · simp -implicitDefEqProofs (maxSteps := 3000000) only [go_sem, reduceCtorEq]
        simp [szGStore, chain, szTx, sub64, h0, h1, h2]
      · simp -implicitDefEqProofs (maxSteps := 3000000) only [go_sem, reduceCtorEq]
        refine k74 x.fTxn _ rfl o3 ?_
        simp -implicitDefEqProofs (maxSteps := 3000000) only [go_sem, reduceCtorEq]
        refine way_dec (fun h3 => ?_) (fun h3 => ?_)
        · simp -implicitDefEqProofs (maxSteps := 3000000) only [go_sem, reduceCtorEq]
          simp [szGStore, chain, szTx, sub64, h0, h1, h2, h3]
        · simp -implicitDefEqProofs (maxSteps := 3000000) only [go_sem, reduceCtorEq]
          simp [szGStore, chain, szTx, sub64, h0, h1, h2, h3]
theorem k38 {h : Heap} {tb : Nat} {K : OK} {args : List V} {ls : List Nat} (x : GStore) (left : Int) (hg : toDs h args = some ([.agg [.sl (strs x.fDisk.fPages), .sl (GPutS x.fDisk.fLate), .int .i64 x.fMeta.fTx, .int .i64 x.fMeta.fRoot, .int .i64 x.fMeta.fNext, .sl (GFreeS x.fMeta.fFrees), .sl (GReaderS x.fReaders), .int .i64 x.fTxn.fBase.fTx, .int .i64 x.fTxn.fBase.fRoot, .int .i64 x.fTxn.fBase.fNext, .sl (GFreeS x.fTxn.fBase.fFrees), .sl (strs x.fTxn.fWork.fDisk.fPages), .sl (GPutS x.fTxn.fWork.fDisk.fLate), .int .i64 x.fTxn.fWork.fNext, .sl (ints x.fTxn.fWork.fUsable), .sl (ints x.fTxn.fWork.fGone), .sl (ints x.fTxn.fWork.fFresh), .int .i64 x.fTxn.fRoot, .bool x.fWriting, .bool x.fFailed], .int .i64 left], ls)) (hx : okGStore x)
    (hk : K (.d (.int .i64 (szGStore x left))) []) : callVC Go.Proofs.Tryz.prog h tb 38 args K :=
  call_free hg (c38 x left hx) rfl (.inr ⟨.d (.int _ _), flatH_nil⟩) hk
@[go_sem] def hr44 : Hints
  | 0 => [0] | 1 => [1, 2] | 2 => [1, 2, 3] | 3 => [1, 2, 3] | 4 => [1, 2, 3] | 5 => [1, 2, 3] | 6 => [1, 2, 3] | 7 => [1, 2, 3] | 8 => [2, 3] | _ => []
@[go_sem] def hl44 : Hints := fun _ => []
attribute [go_sem] Go.Proofs.Tryz.results44
set_option maxHeartbeats 2000000 in
theorem c44 (x : GStore) (hx : smallGStore x) : CallOK Go.Proofs.Tryz.prog 44 [.d (.agg x.cells)] [] [.dead] (.d (.agg x.cells)) [] := by
  refine freeze_agg ?_ rfl
  refine call_of tysZOK mixedZ Go.Proofs.Tryz.func44 (by kernel_rfl) rfl (np := [false]) (by kernel_rfl) hr44 hl44 (by simp [Go.Proofs.Tryz.ntmps44]) ?_
  obtain ⟨o0, o1, o2, o3⟩ := hx
  simp -implicitDefEqProofs (maxSteps := 3000000) only [go_sem, reduceCtorEq, GStore.cells]
  repeat ((first | refine req (by first | assumption | omega) ?_ | refine k77 x.fDisk rfl o0 ?_ | refine k78 x.fMeta rfl o1 ?_ | refine k79 x.fReaders rfl o2 ?_ | refine k80 x.fTxn rfl o3 ?_); simp -implicitDefEqProofs (maxSteps := 3000000) only [go_sem, reduceCtorEq])
  all_goals rfl
theorem k44 {h : Heap} {tb : Nat} {K : OK} {args : List V} (x : GStore) (hg : toDs h args = some ([.agg [.sl (strs x.fDisk.fPages), .sl (GPutS x.fDisk.fLate), .int .i64 x.fMeta.fTx, .int .i64 x.fMeta.fRoot, .int .i64 x.fMeta.fNext, .sl (GFreeS x.fMeta.fFrees), .sl (GReaderS x.fReaders), .int .i64 x.fTxn.fBase.fTx, .int .i64 x.fTxn.fBase.fRoot, .int .i64 x.fTxn.fBase.fNext, .sl (GFreeS x.fTxn.fBase.fFrees), .sl (strs x.fTxn.fWork.fDisk.fPages), .sl (GPutS x.fTxn.fWork.fDisk.fLate), .int .i64 x.fTxn.fWork.fNext, .sl (ints x.fTxn.fWork.fUsable), .sl (ints x.fTxn.fWork.fGone), .sl (ints x.fTxn.fWork.fFresh), .int .i64 x.fTxn.fRoot, .bool x.fWriting, .bool x.fFailed]], [])) (hx : smallGStore x)
    (hk : K (.d (.agg [.sl (strs x.fDisk.fPages), .sl (GPutS x.fDisk.fLate), .int .i64 x.fMeta.fTx, .int .i64 x.fMeta.fRoot, .int .i64 x.fMeta.fNext, .sl (GFreeS x.fMeta.fFrees), .sl (GReaderS x.fReaders), .int .i64 x.fTxn.fBase.fTx, .int .i64 x.fTxn.fBase.fRoot, .int .i64 x.fTxn.fBase.fNext, .sl (GFreeS x.fTxn.fBase.fFrees), .sl (strs x.fTxn.fWork.fDisk.fPages), .sl (GPutS x.fTxn.fWork.fDisk.fLate), .int .i64 x.fTxn.fWork.fNext, .sl (ints x.fTxn.fWork.fUsable), .sl (ints x.fTxn.fWork.fGone), .sl (ints x.fTxn.fWork.fFresh), .int .i64 x.fTxn.fRoot, .bool x.fWriting, .bool x.fFailed])) []) : callVC Go.Proofs.Tryz.prog h tb 44 args K :=
  call_free hg (c44 x hx) rfl (.inl rfl) hk
@[go_sem] def hr50 : Hints
  | 0 => [0, 1] | 1 => [2, 3] | 2 => [] | 3 => [2, 3] | 4 => [] | 5 => [2, 3] | 6 => [] | 7 => [2, 3] | 8 => [] | 9 => [2, 3] | 10 => [] | 11 => [2, 3] | 12 => [] | 13 => [] | _ => []
@[go_sem] def hl50 : Hints := fun _ => []
attribute [go_sem] Go.Proofs.Tryz.results50
set_option maxHeartbeats 2000000 in
theorem c50 (x : GStore) (hx : okGStore x) : CallOK Go.Proofs.Tryz.prog 50 [.d (.agg x.cells), .d (.agg x.cells)] [] [.dead, .dead] (.d (.bool true)) [] := by
  refine call_of tysZOK mixedZ Go.Proofs.Tryz.func50 (by kernel_rfl) rfl (np := [false, false]) (by kernel_rfl) hr50 hl50 (by simp [Go.Proofs.Tryz.ntmps50]) ?_
  obtain ⟨o0, o1, o2, o3⟩ := hx
  simp -implicitDefEqProofs (maxSteps := 3000000) only [go_sem, reduceCtorEq, GStore.cells, decide_true]
  repeat ((first | refine req (by first | assumption | omega) ?_ | refine k85 x.fDisk rfl o0 ?_ | refine k86 x.fMeta rfl o1 ?_ | refine k87 x.fReaders rfl o2 ?_ | refine k88 x.fTxn rfl o3 ?_); simp -implicitDefEqProofs (maxSteps := 3000000) only [go_sem, reduceCtorEq, decide_true, beq_self_eq_true])
theorem k50 {h : Heap} {tb : Nat} {K : OK} {args : List V} {ls : List Nat} (x : GStore) (hg : toDs h args = some ([.agg [.sl (strs x.fDisk.fPages), .sl (GPutS x.fDisk.fLate), .int .i64 x.fMeta.fTx, .int .i64 x.fMeta.fRoot, .int .i64 x.fMeta.fNext, .sl (GFreeS x.fMeta.fFrees), .sl (GReaderS x.fReaders), .int .i64 x.fTxn.fBase.fTx, .int .i64 x.fTxn.fBase.fRoot, .int .i64 x.fTxn.fBase.fNext, .sl (GFreeS x.fTxn.fBase.fFrees), .sl (strs x.fTxn.fWork.fDisk.fPages), .sl (GPutS x.fTxn.fWork.fDisk.fLate), .int .i64 x.fTxn.fWork.fNext, .sl (ints x.fTxn.fWork.fUsable), .sl (ints x.fTxn.fWork.fGone), .sl (ints x.fTxn.fWork.fFresh), .int .i64 x.fTxn.fRoot, .bool x.fWriting, .bool x.fFailed], .agg [.sl (strs x.fDisk.fPages), .sl (GPutS x.fDisk.fLate), .int .i64 x.fMeta.fTx, .int .i64 x.fMeta.fRoot, .int .i64 x.fMeta.fNext, .sl (GFreeS x.fMeta.fFrees), .sl (GReaderS x.fReaders), .int .i64 x.fTxn.fBase.fTx, .int .i64 x.fTxn.fBase.fRoot, .int .i64 x.fTxn.fBase.fNext, .sl (GFreeS x.fTxn.fBase.fFrees), .sl (strs x.fTxn.fWork.fDisk.fPages), .sl (GPutS x.fTxn.fWork.fDisk.fLate), .int .i64 x.fTxn.fWork.fNext, .sl (ints x.fTxn.fWork.fUsable), .sl (ints x.fTxn.fWork.fGone), .sl (ints x.fTxn.fWork.fFresh), .int .i64 x.fTxn.fRoot, .bool x.fWriting, .bool x.fFailed]], ls)) (hx : okGStore x)
    (hk : K (.d (.bool true)) []) : callVC Go.Proofs.Tryz.prog h tb 50 args K :=
  call_free hg (c50 x hx) rfl (.inr ⟨.d (.bool _), flatH_nil⟩) hk

end Go.Rx

namespace Go.Rx
open Go
attribute [local irreducible] Req Way WayG Sel callVC CallOK
set_option linter.unusedSimpArgs false
set_option linter.unusedVariables false
@[go_sem] def hr75 : Hints
  | 0 => [0, 1] | 1 => [1, 2] | 2 => [1, 2] | 3 => [] | 4 => [1, 2] | 5 => [1] | 6 => [] | 7 => [1] | _ => []
@[go_sem] def hl75 : Hints := fun _ => []
attribute [go_sem] Go.Proofs.Tryz.results75
set_option maxHeartbeats 1000000 in
theorem c75 (x : GPair) (left : Int) (hx : okGPair x) : CallOK Go.Proofs.Tryz.prog 75 [.d (.agg x.cells), .d (.int .i64 left)] [] [.dead, .dead] (.d (.int .i64 (szGPair x left))) [] := by
  refine call_of tysZOK mixedZ Go.Proofs.Tryz.func75 (by kernel_rfl) rfl (np := [false, false]) (by kernel_rfl) hr75 hl75 (by simp [Go.Proofs.Tryz.ntmps75]) ?_
  obtain ⟨o0, o1⟩ := hx
  simp -implicitDefEqProofs (maxSteps := 3000000) only [go_sem, reduceCtorEq, GPair.cells]
  refine way_dec (fun h0 => ?_) (fun h0 => ?_)
  · simp -implicitDefEqProofs (maxSteps := 3000000) only [go_sem, reduceCtorEq]
    simp [szGPair, chain, szTx, sub64, h0]
  · simp -implicitDefEqProofs (maxSteps := 3000000) only [go_sem, reduceCtorEq]
    refine way_dec (fun h1 => ?_) (fun h1 => ?_)
    · simp -implicitDefEqProofs (maxSteps := 3000000) only [go_sem, reduceCtorEq]
      simp [szGPair, chain, szTx, sub64, h0, h1]
    · simp -implicitDefEqProofs (maxSteps := 3000000) only [go_sem, reduceCtorEq]
      simp [szGPair, chain, szTx, sub64, h0, h1]
theorem k75 {h : Heap} {tb : Nat} {K : OK} {args : List V} {ls : List Nat} (x : GPair) (left : Int) (hg : toDs h args = some ([.agg [.str x.fKey, .str x.fVal], .int .i64 left], ls)) (hx : okGPair x)
    (hk : K (.d (.int .i64 (szGPair x left))) []) : callVC Go.Proofs.Tryz.prog h tb 75 args K :=
  call_free hg (c75 x left hx) rfl (.inr ⟨.d (.int _ _), flatH_nil⟩) hk
@[go_sem] def hr81 : Hints
  | 0 => [0] | 1 => [1, 2] | 2 => [1, 2, 3] | 3 => [1, 2, 3] | 4 => [2, 3] | _ => []
@[go_sem] def hl81 : Hints := fun _ => []
attribute [go_sem] Go.Proofs.Tryz.results81
set_option maxHeartbeats 2000000 in
theorem c81 (x : GPair) (hx : smallGPair x) : CallOK Go.Proofs.Tryz.prog 81 [.d (.agg x.cells)] [] [.dead] (.d (.agg x.cells)) [] := by
  refine freeze_agg ?_ rfl
  refine call_of tysZOK mixedZ Go.Proofs.Tryz.func81 (by kernel_rfl) rfl (np := [false]) (by kernel_rfl) hr81 hl81 (by simp [Go.Proofs.Tryz.ntmps81]) ?_
  obtain ⟨o0, o1⟩ := hx
  simp -implicitDefEqProofs (maxSteps := 3000000) only [go_sem, reduceCtorEq, GPair.cells]
  repeat ((first | refine req (by first | assumption | omega) ?_); simp -implicitDefEqProofs (maxSteps := 3000000) only [go_sem, reduceCtorEq])
  all_goals rfl
theorem k81 {h : Heap} {tb : Nat} {K : OK} {args : List V} (x : GPair) (hg : toDs h args = some ([.agg [.str x.fKey, .str x.fVal]], [])) (hx : smallGPair x)
    (hk : K (.d (.agg [.str x.fKey, .str x.fVal])) []) : callVC Go.Proofs.Tryz.prog h tb 81 args K :=
  call_free hg (c81 x hx) rfl (.inl rfl) hk
@[go_sem] def hr89 : Hints
  | 0 => [0, 1] | 1 => [2, 3] | 2 => [] | 3 => [2, 3] | 4 => [] | 5 => [] | _ => []
@[go_sem] def hl89 : Hints := fun _ => []
attribute [go_sem] Go.Proofs.Tryz.results89
set_option maxHeartbeats 2000000 in
theorem c89 (x : GPair) (hx : okGPair x) : CallOK Go.Proofs.Tryz.prog 89 [.d (.agg x.cells), .d (.agg x.cells)] [] [.dead, .dead] (.d (.bool true)) [] := by
  refine call_of tysZOK mixedZ Go.Proofs.Tryz.func89 (by kernel_rfl) rfl (np := [false, false]) (by kernel_rfl) hr89 hl89 (by simp [Go.Proofs.Tryz.ntmps89]) ?_
  obtain ⟨o0, o1⟩ := hx
  simp -implicitDefEqProofs (maxSteps := 3000000) only [go_sem, reduceCtorEq, GPair.cells, decide_true]
  repeat ((first | refine req (by first | assumption | omega) ?_); simp -implicitDefEqProofs (maxSteps := 3000000) only [go_sem, reduceCtorEq, decide_true, beq_self_eq_true])
theorem k89 {h : Heap} {tb : Nat} {K : OK} {args : List V} {ls : List Nat} (x : GPair) (hg : toDs h args = some ([.agg [.str x.fKey, .str x.fVal], .agg [.str x.fKey, .str x.fVal]], ls)) (hx : okGPair x)
    (hk : K (.d (.bool true)) []) : callVC Go.Proofs.Tryz.prog h tb 89 args K :=
  call_free hg (c89 x hx) rfl (.inr ⟨.d (.bool _), flatH_nil⟩) hk

@[go_sem] def hr39 : Hints
  | 0 => [0, 1] | 1 => [0, 1] | 2 => [0, 1] | 3 => [] | 4 => [0, 1] | 5 => [0, 1, 5] | 6 => [0, 1, 5] | 7 => [0, 1, 5] | 8 => [0, 1, 5] | 9 => [] | 10 => [1] | _ => []
@[go_sem] def hl39 : Hints
  | 5 => [0, 1, 5] | _ => []
attribute [go_sem] Go.Proofs.Tryz.results39
theorem c39 (l : List GPair) (left : Int) (hl : okSl okGPair l) : CallOK Go.Proofs.Tryz.prog 39 [.d (.sl (GPairS l)), .d (.int .i64 left)] [] [.dead, .dead] (.d (.int .i64 (szSl szGPair l left))) [] := by
  refine call_of tysZOK mixedZ Go.Proofs.Tryz.func39 (by kernel_rfl) rfl (np := [false, false]) (by kernel_rfl) hr39 hl39 (by simp [Go.Proofs.Tryz.ntmps39]) ?_
  simp -implicitDefEqProofs (maxSteps := 3000000) only [go_sem, reduceCtorEq, GPairS_length]
  refine way_dec (fun h1 => ?_) (fun h1 => ?_)
  · simp -implicitDefEqProofs (maxSteps := 3000000) only [go_sem, reduceCtorEq]
    simp [szSl, sub64, h1]
  · simp -implicitDefEqProofs (maxSteps := 3000000) only [go_sem, reduceCtorEq]
    refine loop_data (α := Nat × Int) (fun x => ⟨[(0, .d (.sl (GPairS l))), (1, .d (.int .i64 x.2)), (5, .d (.int .i64 x.1))], []⟩)
      (fun x => x.1 ≤ l.length ∧ chainL szGPair (l.drop x.1) x.2 = szSl szGPair l left) (fun x => l.length - x.1) (0, IntKind.i64.wrap (left - l.length)) rfl ⟨Nat.zero_le _, by simp [szSl, sub64, h1]⟩ ?_
    rintro ⟨i, lf⟩ ⟨h2, h3⟩
    simp -implicitDefEqProofs (maxSteps := 3000000) only [go_sem, reduceCtorEq, GPairS_length]
    refine way_dec (fun h4 => ?_) (fun h4 => ?_)
    · obtain ⟨p, hp⟩ := some_at h4
      rw [drop_cons hp] at h3
      simp -implicitDefEqProofs (maxSteps := 3000000) only [go_sem, reduceCtorEq, GPairS_length, lget_GPairS hp]
      repeat ((first | refine req (by first | assumption | omega) ?_ | refine k75 p _ rfl (hl.2 p (List.mem_of_getElem? hp)) ?_); simp -implicitDefEqProofs (maxSteps := 3000000) only [go_sem, reduceCtorEq, GPairS_length, lget_GPairS hp])
      refine way_dec (fun h5 => ?_) (fun h5 => ?_)
      · simp -implicitDefEqProofs (maxSteps := 3000000) only [go_sem, reduceCtorEq]
        rw [← h3, chainL_neg (f := szGPair) (a := p) (l := lf) h5]
      · simp -implicitDefEqProofs (maxSteps := 3000000) only [go_sem, reduceCtorEq]
        refine next_data (i + 1, szGPair p lf) ?_ ⟨?_, ?_⟩ ?_
        · first | (simp only [wrap_succ (show i < LEN by have := hl.1; omega)]; done) | (simp only [wrap_succ (show i < LEN by have := hl.1; omega)]; rfl)
        · simp only; omega
        · rw [← h3]; exact (chainL_pos (f := szGPair) (a := p) (l := lf) h5).symm
        · simp only; omega
    · simp -implicitDefEqProofs (maxSteps := 3000000) only [go_sem, reduceCtorEq, GPairS_length]
      rw [List.drop_eq_nil_of_le (by omega)] at h3
      rw [← h3]; rfl
theorem k39 {h : Heap} {tb : Nat} {K : OK} {args : List V} {ls : List Nat} (l : List GPair) (left : Int) (hg : toDs h args = some ([.sl (GPairS l), .int .i64 left], ls)) (hl : okSl okGPair l)
    (hk : K (.d (.int .i64 (szSl szGPair l left))) []) : callVC Go.Proofs.Tryz.prog h tb 39 args K :=
  call_free hg (c39 l left hl) rfl (.inr ⟨.d (.int _ _), flatH_nil⟩) hk
@[go_sem] def hr45 : Hints
  | 0 => [0] | 1 => [0] | 2 => [0, 3] | 3 => [0, 3, 4] | 4 => [0, 3, 4] | 5 => [0, 3, 4] | 6 => [3] | _ => []
@[go_sem] def hl45 : Hints
  | 3 => [0, 3, 4] | _ => []
attribute [go_sem] Go.Proofs.Tryz.results45
theorem c45 (l : List GPair) (hl : smallSl smallGPair l) : CallOK Go.Proofs.Tryz.prog 45 [.d (.sl (GPairS l))] [] [.dead] (.d (.sl (GPairS l))) [] := by
  have hl1 := hl.1
  refine freeze_own (m := 2) (n := l.length) ?_ GPairS_length.symm rfl
  refine call_of tysZOK mixedZ Go.Proofs.Tryz.func45 (by kernel_rfl) rfl (np := [false]) (by kernel_rfl) hr45 hl45 (by simp [Go.Proofs.Tryz.ntmps45]) ?_
  simp -implicitDefEqProofs (maxSteps := 3000000) only [go_sem, reduceCtorEq, GPairS_length]
  repeat ((first | refine req (by first | assumption | omega) ?_); simp -implicitDefEqProofs (maxSteps := 3000000) only [go_sem, reduceCtorEq, GPairS_length])
  rw [GPairS_zero]
  refine loop_data (α := Nat × List (GPair)) (fun x => ⟨[(0, .d (.sl (GPairS l))), (3, .own 0 0 l.length), (4, .d (.int .i64 x.1))], [(0, some (.arr 2 (GPairS x.2)))]⟩)
    (fun x => x.1 ≤ l.length ∧ x.2.length = l.length ∧ x.2.take x.1 = l.take x.1) (fun x => l.length - x.1) (0, _) rfl ⟨Nat.zero_le _, by simp, by simp⟩ ?_
  rintro ⟨i, m⟩ ⟨h2, h3, h4⟩
  simp only at h2 h3 h4
  simp -implicitDefEqProofs (maxSteps := 3000000) only [go_sem, reduceCtorEq, GPairS_length]
  refine way_dec (fun h5 => ?_) (fun h5 => ?_)
  · obtain ⟨p, hp⟩ := some_at h5
    obtain ⟨q, hq⟩ := some_at (l := m) (h3 ▸ h5)
    simp -implicitDefEqProofs (maxSteps := 3000000) only [go_sem, reduceCtorEq, GPairS_length, lget_GPairS hp]
    repeat ((first | refine req (by first | assumption | omega) ?_ | refine k81 p rfl (hl.2 p (List.mem_of_getElem? hp)) ?_); simp -implicitDefEqProofs (maxSteps := 3000000) only [go_sem, reduceCtorEq, GPairS_length, lget_GPairS hp, lget_GPairS hq])
    rw [wrap_succ (by simp only [LEN]; omega)]
    try rw [GPairS_set (p := p)]
    refine next_data (i + 1, m.set i p) rfl ⟨?_, by simpa using h3, take_set hp h3 h4⟩ ?_
    · simp only; omega
    · simp only; omega
  · simp -implicitDefEqProofs (maxSteps := 3000000) only [go_sem, reduceCtorEq, GPairS_length]
    rw [List.take_of_length_le (by omega), List.take_of_length_le (by omega)] at h4
    rw [h4]
theorem k45 {h : Heap} {tb : Nat} {K : OK} {args : List V} (l : List GPair) (hg : toDs h args = some ([.sl (GPairS l)], [])) (hl : smallSl smallGPair l)
    (hk : K (.d (.sl (GPairS l))) []) : callVC Go.Proofs.Tryz.prog h tb 45 args K :=
  call_free hg (c45 l hl) rfl (.inl rfl) hk
@[go_sem] def hr51 : Hints
  | 0 => [0, 1] | 1 => [0, 1] | 2 => [] | 3 => [0, 1] | 4 => [0, 1, 5] | 5 => [0, 1, 5] | 6 => [0, 1, 5] | 7 => [] | 8 => [] | _ => []
@[go_sem] def hl51 : Hints
  | 4 => [0, 1, 5] | _ => []
attribute [go_sem] Go.Proofs.Tryz.results51
theorem c51 (l : List GPair) (hl : okSl okGPair l) : CallOK Go.Proofs.Tryz.prog 51 [.d (.sl (GPairS l)), .d (.sl (GPairS l))] [] [.dead, .dead] (.d (.bool true)) [] := by
  have hl1 := hl.1
  refine call_of tysZOK mixedZ Go.Proofs.Tryz.func51 (by kernel_rfl) rfl (np := [false, false]) (by kernel_rfl) hr51 hl51 (by simp [Go.Proofs.Tryz.ntmps51]) ?_
  simp -implicitDefEqProofs (maxSteps := 3000000) only [go_sem, reduceCtorEq, GPairS_length]
  refine loop_data (α := Nat) (fun i => ⟨[(0, .d (.sl (GPairS l))), (1, .d (.sl (GPairS l))), (5, .d (.int .i64 i))], []⟩)
    (fun i => i ≤ l.length) (fun i => l.length - i) 0 rfl (Nat.zero_le _) ?_
  rintro i h2
  simp -implicitDefEqProofs (maxSteps := 3000000) only [go_sem, reduceCtorEq, GPairS_length]
  refine way_dec (fun h5 => ?_) (fun h5 => ?_)
  · obtain ⟨p, hp⟩ := some_at h5
    simp -implicitDefEqProofs (maxSteps := 3000000) only [go_sem, reduceCtorEq, GPairS_length, lget_GPairS hp]
    repeat ((first | refine req (by first | assumption | omega | exact commP_of (by kernel_rfl)) ?_ | refine k89 p rfl (hl.2 p (List.mem_of_getElem? hp)) ?_); simp -implicitDefEqProofs (maxSteps := 3000000) only [go_sem, reduceCtorEq, GPairS_length, lget_GPairS hp, decide_true])
    rw [wrap_succ (by omega)]
    exact next_data (i + 1) rfl (by omega) (by omega)
  · simp -implicitDefEqProofs (maxSteps := 3000000) only [go_sem, reduceCtorEq, GPairS_length]
theorem k51 {h : Heap} {tb : Nat} {K : OK} {args : List V} {ls : List Nat} (l : List GPair) (hg : toDs h args = some ([.sl (GPairS l), .sl (GPairS l)], ls)) (hl : okSl okGPair l)
    (hk : K (.d (.bool true)) []) : callVC Go.Proofs.Tryz.prog h tb 51 args K :=
  call_free hg (c51 l hl) rfl (.inr ⟨.d (.bool _), flatH_nil⟩) hk

@[go_sem] def hr76 : Hints
  | 0 => [0, 1] | 1 => [1, 2] | 2 => [1] | 3 => [] | 4 => [1] | _ => []
@[go_sem] def hl76 : Hints := fun _ => []
attribute [go_sem] Go.Proofs.Tryz.results76
set_option maxHeartbeats 1000000 in
theorem c76 (x : GSeen) (left : Int) (hx : okGSeen x) : CallOK Go.Proofs.Tryz.prog 76 [.d (.agg x.cells), .d (.int .i64 left)] [] [.dead, .dead] (.d (.int .i64 (szGSeen x left))) [] := by
  refine call_of tysZOK mixedZ Go.Proofs.Tryz.func76 (by kernel_rfl) rfl (np := [false, false]) (by kernel_rfl) hr76 hl76 (by simp [Go.Proofs.Tryz.ntmps76]) ?_
  have o0 := hx
  simp -implicitDefEqProofs (maxSteps := 3000000) only [go_sem, reduceCtorEq, GSeen.cells]
  refine k39 x.fPairs _ rfl o0 ?_
  simp -implicitDefEqProofs (maxSteps := 3000000) only [go_sem, reduceCtorEq]
  refine way_dec (fun h0 => ?_) (fun h0 => ?_)
  · simp -implicitDefEqProofs (maxSteps := 3000000) only [go_sem, reduceCtorEq]
    simp [szGSeen, chain, szTx, sub64, h0]
  · simp -implicitDefEqProofs (maxSteps := 3000000) only [go_sem, reduceCtorEq]
    simp [szGSeen, chain, szTx, sub64, h0]
theorem k76 {h : Heap} {tb : Nat} {K : OK} {args : List V} {ls : List Nat} (x : GSeen) (left : Int) (hg : toDs h args = some ([.agg [.int .i64 x.fId, .sl (GPairS x.fPairs)], .int .i64 left], ls)) (hx : okGSeen x)
    (hk : K (.d (.int .i64 (szGSeen x left))) []) : callVC Go.Proofs.Tryz.prog h tb 76 args K :=
  call_free hg (c76 x left hx) rfl (.inr ⟨.d (.int _ _), flatH_nil⟩) hk
@[go_sem] def hr82 : Hints
  | 0 => [0] | 1 => [1, 2] | 2 => [1, 2, 3] | 3 => [1, 2, 3] | 4 => [2, 3] | _ => []
@[go_sem] def hl82 : Hints := fun _ => []
attribute [go_sem] Go.Proofs.Tryz.results82
set_option maxHeartbeats 2000000 in
theorem c82 (x : GSeen) (hx : smallGSeen x) : CallOK Go.Proofs.Tryz.prog 82 [.d (.agg x.cells)] [] [.dead] (.d (.agg x.cells)) [] := by
  refine freeze_agg ?_ rfl
  refine call_of tysZOK mixedZ Go.Proofs.Tryz.func82 (by kernel_rfl) rfl (np := [false]) (by kernel_rfl) hr82 hl82 (by simp [Go.Proofs.Tryz.ntmps82]) ?_
  have o0 := hx
  simp -implicitDefEqProofs (maxSteps := 3000000) only [go_sem, reduceCtorEq, GSeen.cells]
  repeat ((first | refine req (by first | assumption | omega) ?_ | refine k45 x.fPairs rfl o0 ?_); simp -implicitDefEqProofs (maxSteps := 3000000) only [go_sem, reduceCtorEq])
  all_goals rfl
theorem k82 {h : Heap} {tb : Nat} {K : OK} {args : List V} (x : GSeen) (hg : toDs h args = some ([.agg [.int .i64 x.fId, .sl (GPairS x.fPairs)]], [])) (hx : smallGSeen x)
    (hk : K (.d (.agg [.int .i64 x.fId, .sl (GPairS x.fPairs)])) []) : callVC Go.Proofs.Tryz.prog h tb 82 args K :=
  call_free hg (c82 x hx) rfl (.inl rfl) hk
@[go_sem] def hr90 : Hints
  | 0 => [0, 1] | 1 => [2, 3] | 2 => [] | 3 => [2, 3] | 4 => [] | 5 => [] | _ => []
@[go_sem] def hl90 : Hints := fun _ => []
attribute [go_sem] Go.Proofs.Tryz.results90
set_option maxHeartbeats 2000000 in
theorem c90 (x : GSeen) (hx : okGSeen x) : CallOK Go.Proofs.Tryz.prog 90 [.d (.agg x.cells), .d (.agg x.cells)] [] [.dead, .dead] (.d (.bool true)) [] := by
  refine call_of tysZOK mixedZ Go.Proofs.Tryz.func90 (by kernel_rfl) rfl (np := [false, false]) (by kernel_rfl) hr90 hl90 (by simp [Go.Proofs.Tryz.ntmps90]) ?_
  have o0 := hx
  simp -implicitDefEqProofs (maxSteps := 3000000) only [go_sem, reduceCtorEq, GSeen.cells, decide_true]
  repeat ((first | refine req (by first | assumption | omega) ?_ | refine k51 x.fPairs rfl o0 ?_); simp -implicitDefEqProofs (maxSteps := 3000000) only [go_sem, reduceCtorEq, decide_true, beq_self_eq_true])
theorem k90 {h : Heap} {tb : Nat} {K : OK} {args : List V} {ls : List Nat} (x : GSeen) (hg : toDs h args = some ([.agg [.int .i64 x.fId, .sl (GPairS x.fPairs)], .agg [.int .i64 x.fId, .sl (GPairS x.fPairs)]], ls)) (hx : okGSeen x)
    (hk : K (.d (.bool true)) []) : callVC Go.Proofs.Tryz.prog h tb 90 args K :=
  call_free hg (c90 x hx) rfl (.inr ⟨.d (.bool _), flatH_nil⟩) hk

@[go_sem] def hr40 : Hints
  | 0 => [0, 1] | 1 => [0, 1] | 2 => [0, 1] | 3 => [] | 4 => [0, 1] | 5 => [0, 1, 5] | 6 => [0, 1, 5] | 7 => [0, 1, 5] | 8 => [0, 1, 5] | 9 => [] | 10 => [1] | _ => []
@[go_sem] def hl40 : Hints
  | 5 => [0, 1, 5] | _ => []
attribute [go_sem] Go.Proofs.Tryz.results40
theorem c40 (l : List GSeen) (left : Int) (hl : okSl okGSeen l) : CallOK Go.Proofs.Tryz.prog 40 [.d (.sl (GSeenS l)), .d (.int .i64 left)] [] [.dead, .dead] (.d (.int .i64 (szSl szGSeen l left))) [] := by
  refine call_of tysZOK mixedZ Go.Proofs.Tryz.func40 (by kernel_rfl) rfl (np := [false, false]) (by kernel_rfl) hr40 hl40 (by simp [Go.Proofs.Tryz.ntmps40]) ?_
  simp -implicitDefEqProofs (maxSteps := 3000000) only [go_sem, reduceCtorEq, GSeenS_length]
  refine way_dec (fun h1 => ?_) (fun h1 => ?_)
  · simp -implicitDefEqProofs (maxSteps := 3000000) only [go_sem, reduceCtorEq]
    simp [szSl, sub64, h1]
  · simp -implicitDefEqProofs (maxSteps := 3000000) only [go_sem, reduceCtorEq]
    refine loop_data (α := Nat × Int) (fun x => ⟨[(0, .d (.sl (GSeenS l))), (1, .d (.int .i64 x.2)), (5, .d (.int .i64 x.1))], []⟩)
      (fun x => x.1 ≤ l.length ∧ chainL szGSeen (l.drop x.1) x.2 = szSl szGSeen l left) (fun x => l.length - x.1) (0, IntKind.i64.wrap (left - l.length)) rfl ⟨Nat.zero_le _, by simp [szSl, sub64, h1]⟩ ?_
    rintro ⟨i, lf⟩ ⟨h2, h3⟩
    simp -implicitDefEqProofs (maxSteps := 3000000) only [go_sem, reduceCtorEq, GSeenS_length]
    refine way_dec (fun h4 => ?_) (fun h4 => ?_)
    · obtain ⟨p, hp⟩ := some_at h4
      rw [drop_cons hp] at h3
      simp -implicitDefEqProofs (maxSteps := 3000000) only [go_sem, reduceCtorEq, GSeenS_length, lget_GSeenS hp]
      repeat ((first | refine req (by first | assumption | omega) ?_ | refine k76 p _ rfl (hl.2 p (List.mem_of_getElem? hp)) ?_); simp -implicitDefEqProofs (maxSteps := 3000000) only [go_sem, reduceCtorEq, GSeenS_length, lget_GSeenS hp])
      refine way_dec (fun h5 => ?_) (fun h5 => ?_)
      · simp -implicitDefEqProofs (maxSteps := 3000000) only [go_sem, reduceCtorEq]
        rw [← h3, chainL_neg (f := szGSeen) (a := p) (l := lf) h5]
      · simp -implicitDefEqProofs (maxSteps := 3000000) only [go_sem, reduceCtorEq]
        refine next_data (i + 1, szGSeen p lf) ?_ ⟨?_, ?_⟩ ?_
        · first | (simp only [wrap_succ (show i < LEN by have := hl.1; omega)]; done) | (simp only [wrap_succ (show i < LEN by have := hl.1; omega)]; rfl)
        · simp only; omega
        · rw [← h3]; exact (chainL_pos (f := szGSeen) (a := p) (l := lf) h5).symm
        · simp only; omega
    · simp -implicitDefEqProofs (maxSteps := 3000000) only [go_sem, reduceCtorEq, GSeenS_length]
      rw [List.drop_eq_nil_of_le (by omega)] at h3
      rw [← h3]; rfl
theorem k40 {h : Heap} {tb : Nat} {K : OK} {args : List V} {ls : List Nat} (l : List GSeen) (left : Int) (hg : toDs h args = some ([.sl (GSeenS l), .int .i64 left], ls)) (hl : okSl okGSeen l)
    (hk : K (.d (.int .i64 (szSl szGSeen l left))) []) : callVC Go.Proofs.Tryz.prog h tb 40 args K :=
  call_free hg (c40 l left hl) rfl (.inr ⟨.d (.int _ _), flatH_nil⟩) hk
@[go_sem] def hr46 : Hints
  | 0 => [0] | 1 => [0] | 2 => [0, 3] | 3 => [0, 3, 4] | 4 => [0, 3, 4] | 5 => [0, 3, 4] | 6 => [3] | _ => []
@[go_sem] def hl46 : Hints
  | 3 => [0, 3, 4] | _ => []
attribute [go_sem] Go.Proofs.Tryz.results46
theorem c46 (l : List GSeen) (hl : smallSl smallGSeen l) : CallOK Go.Proofs.Tryz.prog 46 [.d (.sl (GSeenS l))] [] [.dead] (.d (.sl (GSeenS l))) [] := by
  have hl1 := hl.1
  refine freeze_own (m := 2) (n := l.length) ?_ GSeenS_length.symm rfl
  refine call_of tysZOK mixedZ Go.Proofs.Tryz.func46 (by kernel_rfl) rfl (np := [false]) (by kernel_rfl) hr46 hl46 (by simp [Go.Proofs.Tryz.ntmps46]) ?_
  simp -implicitDefEqProofs (maxSteps := 3000000) only [go_sem, reduceCtorEq, GSeenS_length]
  repeat ((first | refine req (by first | assumption | omega) ?_); simp -implicitDefEqProofs (maxSteps := 3000000) only [go_sem, reduceCtorEq, GSeenS_length])
  rw [GSeenS_zero]
  refine loop_data (α := Nat × List (GSeen)) (fun x => ⟨[(0, .d (.sl (GSeenS l))), (3, .own 0 0 l.length), (4, .d (.int .i64 x.1))], [(0, some (.arr 2 (GSeenS x.2)))]⟩)
    (fun x => x.1 ≤ l.length ∧ x.2.length = l.length ∧ x.2.take x.1 = l.take x.1) (fun x => l.length - x.1) (0, _) rfl ⟨Nat.zero_le _, by simp, by simp⟩ ?_
  rintro ⟨i, m⟩ ⟨h2, h3, h4⟩
  simp only at h2 h3 h4
  simp -implicitDefEqProofs (maxSteps := 3000000) only [go_sem, reduceCtorEq, GSeenS_length]
  refine way_dec (fun h5 => ?_) (fun h5 => ?_)
  · obtain ⟨p, hp⟩ := some_at h5
    obtain ⟨q, hq⟩ := some_at (l := m) (h3 ▸ h5)
    simp -implicitDefEqProofs (maxSteps := 3000000) only [go_sem, reduceCtorEq, GSeenS_length, lget_GSeenS hp]
    repeat ((first | refine req (by first | assumption | omega) ?_ | refine k82 p rfl (hl.2 p (List.mem_of_getElem? hp)) ?_); simp -implicitDefEqProofs (maxSteps := 3000000) only [go_sem, reduceCtorEq, GSeenS_length, lget_GSeenS hp, lget_GSeenS hq])
    rw [wrap_succ (by simp only [LEN]; omega)]
    try rw [GSeenS_set (p := p)]
    refine next_data (i + 1, m.set i p) rfl ⟨?_, by simpa using h3, take_set hp h3 h4⟩ ?_
    · simp only; omega
    · simp only; omega
  · simp -implicitDefEqProofs (maxSteps := 3000000) only [go_sem, reduceCtorEq, GSeenS_length]
    rw [List.take_of_length_le (by omega), List.take_of_length_le (by omega)] at h4
    rw [h4]
theorem k46 {h : Heap} {tb : Nat} {K : OK} {args : List V} (l : List GSeen) (hg : toDs h args = some ([.sl (GSeenS l)], [])) (hl : smallSl smallGSeen l)
    (hk : K (.d (.sl (GSeenS l))) []) : callVC Go.Proofs.Tryz.prog h tb 46 args K :=
  call_free hg (c46 l hl) rfl (.inl rfl) hk
@[go_sem] def hr52 : Hints
  | 0 => [0, 1] | 1 => [0, 1] | 2 => [] | 3 => [0, 1] | 4 => [0, 1, 5] | 5 => [0, 1, 5] | 6 => [0, 1, 5] | 7 => [] | 8 => [] | _ => []
@[go_sem] def hl52 : Hints
  | 4 => [0, 1, 5] | _ => []
attribute [go_sem] Go.Proofs.Tryz.results52
theorem c52 (l : List GSeen) (hl : okSl okGSeen l) : CallOK Go.Proofs.Tryz.prog 52 [.d (.sl (GSeenS l)), .d (.sl (GSeenS l))] [] [.dead, .dead] (.d (.bool true)) [] := by
  have hl1 := hl.1
  refine call_of tysZOK mixedZ Go.Proofs.Tryz.func52 (by kernel_rfl) rfl (np := [false, false]) (by kernel_rfl) hr52 hl52 (by simp [Go.Proofs.Tryz.ntmps52]) ?_
  simp -implicitDefEqProofs (maxSteps := 3000000) only [go_sem, reduceCtorEq, GSeenS_length]
  refine loop_data (α := Nat) (fun i => ⟨[(0, .d (.sl (GSeenS l))), (1, .d (.sl (GSeenS l))), (5, .d (.int .i64 i))], []⟩)
    (fun i => i ≤ l.length) (fun i => l.length - i) 0 rfl (Nat.zero_le _) ?_
  rintro i h2
  simp -implicitDefEqProofs (maxSteps := 3000000) only [go_sem, reduceCtorEq, GSeenS_length]
  refine way_dec (fun h5 => ?_) (fun h5 => ?_)
  · obtain ⟨p, hp⟩ := some_at h5
    simp -implicitDefEqProofs (maxSteps := 3000000) only [go_sem, reduceCtorEq, GSeenS_length, lget_GSeenS hp]
    repeat ((first | refine req (by first | assumption | omega | exact commP_of (by kernel_rfl)) ?_ | refine k90 p rfl (hl.2 p (List.mem_of_getElem? hp)) ?_); simp -implicitDefEqProofs (maxSteps := 3000000) only [go_sem, reduceCtorEq, GSeenS_length, lget_GSeenS hp, decide_true])
    rw [wrap_succ (by omega)]
    exact next_data (i + 1) rfl (by omega) (by omega)
  · simp -implicitDefEqProofs (maxSteps := 3000000) only [go_sem, reduceCtorEq, GSeenS_length]
theorem k52 {h : Heap} {tb : Nat} {K : OK} {args : List V} {ls : List Nat} (l : List GSeen) (hg : toDs h args = some ([.sl (GSeenS l), .sl (GSeenS l)], ls)) (hl : okSl okGSeen l)
    (hk : K (.d (.bool true)) []) : callVC Go.Proofs.Tryz.prog h tb 52 args K :=
  call_free hg (c52 l hl) rfl (.inr ⟨.d (.bool _), flatH_nil⟩) hk

end Go.Rx

namespace Go.Rx
open Go
attribute [local irreducible] Req Way WayG Sel callVC CallOK
set_option linter.unusedSimpArgs false
set_option linter.unusedVariables false
@[go_sem] def hr16 : Hints
  | 0 => [0, 1] | 1 => [1, 2] | 2 => [1, 2] | 3 => [] | 4 => [1, 2] | 5 => [1, 2] | 6 => [] | 7 => [1, 2] | 8 => [1, 2] | 9 => [] | 10 => [1, 2] | 11 => [1, 2] | 12 => [] | 13 => [1, 2] | 14 => [1, 2] | 15 => [] | 16 => [1, 2] | 17 => [1] | 18 => [] | 19 => [1] | _ => []
@[go_sem] def hl16 : Hints := fun _ => []
attribute [go_sem] Go.Proofs.Tryz.results16
set_option maxHeartbeats 1000000 in
theorem c16 (x : GWorld) (left : Int) (hx : okGWorld x) : CallOK Go.Proofs.Tryz.prog 16 [.d (.agg x.cells), .d (.int .i64 left)] [] [.dead, .dead] (.d (.int .i64 (szGWorld x left))) [] := by
  refine call_of tysZOK mixedZ Go.Proofs.Tryz.func16 (by kernel_rfl) rfl (np := [false, false]) (by kernel_rfl) hr16 hl16 (by simp [Go.Proofs.Tryz.ntmps16]) ?_
  obtain ⟨o0, o1, o2, o3, o4, o5⟩ := hx
  simp -implicitDefEqProofs (maxSteps := 3000000) only [go_sem, reduceCtorEq, GWorld.cells]
  refine k38 x.fStore _ rfl o0 ?_
  simp -implicitDefEqProofs (maxSteps := 3000000) only [go_sem, reduceCtorEq]
  refine way_dec (fun h0 => ?_) (fun h0 => ?_)
  · simp -implicitDefEqProofs (maxSteps := 3000000) only [go_sem, reduceCtorEq]
    simp [szGWorld, chain, szTx, sub64, h0]
  · simp -implicitDefEqProofs (maxSteps := 3000000) only [go_sem, reduceCtorEq]
    refine k39 x.fModel _ rfl o1 ?_
    simp -implicitDefEqProofs (maxSteps := 3000000) only [go_sem, reduceCtorEq]
    refine way_dec (fun h1 => ?_) (fun h1 => ?_)
    · simp -implicitDefEqProofs (maxSteps := 3000000) only [go_sem, reduceCtorEq]
      simp [szGWorld, chain, szTx, sub64, h0, h1]
    · simp -implicitDefEqProofs (maxSteps := 3000000) only [go_sem, reduceCtorEq]
      refine k39 x.fNext _ rfl o2 ?_
      simp -implicitDefEqProofs (maxSteps := 3000000) only [go_sem, reduceCtorEq]
      refine way_dec (fun h2 => ?_) (fun h2 => ?_)
      · simp -implicitDefEqProofs (maxSteps := 3000000) only [go_sem, reduceCtorEq]
        simp [szGWorld, chain, szTx, sub64, h0, h1, h2]
      · simp -implicitDefEqProofs (maxSteps := 3000000) only [go_sem, reduceCtorEq]
        refine k40 x.fSeens _ rfl o3 ?_
        simp -implicitDefEqProofs (maxSteps := 3000000) only [go_sem, reduceCtorEq]
        refine way_dec (fun h3 => ?_) (fun h3 => ?_)
        · simp -implicitDefEqProofs (maxSteps := 3000000) only [go_sem, reduceCtorEq]
          simp [szGWorld, chain, szTx, sub64, h0, h1, h2, h3]
        · simp -implicitDefEqProofs (maxSteps := 3000000) only [go_sem, reduceCtorEq]
          refine k41 x.fCodes _ rfl ?_
          simp -implicitDefEqProofs (maxSteps := 3000000) only [go_sem, reduceCtorEq]
          refine way_dec (fun h4 => ?_) (fun h4 => ?_)
          · simp -implicitDefEqProofs (maxSteps := 3000000) only [go_sem, reduceCtorEq]
            simp [szGWorld, chain, szTx, sub64, h0, h1, h2, h3, h4]
          · simp -implicitDefEqProofs (maxSteps := 3000000) only [go_sem, reduceCtorEq]
            refine k42 x.fTold _ rfl o5 ?_
            simp -implicitDefEqProofs (maxSteps := 3000000) only [go_sem, reduceCtorEq]
            refine way_dec (fun h5 => ?_) (fun h5 => ?_)
            · simp -implicitDefEqProofs (maxSteps := 3000000) only [go_sem, reduceCtorEq]
              simp [szGWorld, chain, szTx, sub64, h0, h1, h2, h3, h4, h5]
            · simp -implicitDefEqProofs (maxSteps := 3000000) only [go_sem, reduceCtorEq]
              simp [szGWorld, chain, szTx, sub64, h0, h1, h2, h3, h4, h5]
theorem k16 {h : Heap} {tb : Nat} {K : OK} {args : List V} {ls : List Nat} (x : GWorld) (left : Int) (hg : toDs h args = some ([.agg [.sl (strs x.fStore.fDisk.fPages), .sl (GPutS x.fStore.fDisk.fLate), .int .i64 x.fStore.fMeta.fTx, .int .i64 x.fStore.fMeta.fRoot, .int .i64 x.fStore.fMeta.fNext, .sl (GFreeS x.fStore.fMeta.fFrees), .sl (GReaderS x.fStore.fReaders), .int .i64 x.fStore.fTxn.fBase.fTx, .int .i64 x.fStore.fTxn.fBase.fRoot, .int .i64 x.fStore.fTxn.fBase.fNext, .sl (GFreeS x.fStore.fTxn.fBase.fFrees), .sl (strs x.fStore.fTxn.fWork.fDisk.fPages), .sl (GPutS x.fStore.fTxn.fWork.fDisk.fLate), .int .i64 x.fStore.fTxn.fWork.fNext, .sl (ints x.fStore.fTxn.fWork.fUsable), .sl (ints x.fStore.fTxn.fWork.fGone), .sl (ints x.fStore.fTxn.fWork.fFresh), .int .i64 x.fStore.fTxn.fRoot, .bool x.fStore.fWriting, .bool x.fStore.fFailed, .sl (GPairS x.fModel), .sl (GPairS x.fNext), .sl (GSeenS x.fSeens), .sl (ints x.fCodes), .sl (strs x.fTold)], .int .i64 left], ls)) (hx : okGWorld x)
    (hk : K (.d (.int .i64 (szGWorld x left))) []) : callVC Go.Proofs.Tryz.prog h tb 16 args K :=
  call_free hg (c16 x left hx) rfl (.inr ⟨.d (.int _ _), flatH_nil⟩) hk
@[go_sem] def hr18 : Hints
  | 0 => [0] | 1 => [1, 2] | 2 => [1, 2, 3] | 3 => [1, 2, 3] | 4 => [1, 2, 3] | 5 => [1, 2, 3] | 6 => [1, 2, 3] | 7 => [1, 2, 3] | 8 => [2, 3] | _ => []
@[go_sem] def hl18 : Hints := fun _ => []
attribute [go_sem] Go.Proofs.Tryz.results18
set_option maxHeartbeats 2000000 in
theorem c18 (x : GWorld) (hx : smallGWorld x) : CallOK Go.Proofs.Tryz.prog 18 [.d (.agg x.cells)] [] [.dead] (.d (.agg x.cells)) [] := by
  refine freeze_agg ?_ rfl
  refine call_of tysZOK mixedZ Go.Proofs.Tryz.func18 (by kernel_rfl) rfl (np := [false]) (by kernel_rfl) hr18 hl18 (by simp [Go.Proofs.Tryz.ntmps18]) ?_
  obtain ⟨o0, o1, o2, o3, o4, o5⟩ := hx
  simp -implicitDefEqProofs (maxSteps := 3000000) only [go_sem, reduceCtorEq, GWorld.cells]
  repeat ((first | refine req (by first | assumption | omega) ?_ | refine k44 x.fStore rfl o0 ?_ | refine k45 x.fModel rfl o1 ?_ | refine k45 x.fNext rfl o2 ?_ | refine k46 x.fSeens rfl o3 ?_ | refine k47 x.fCodes rfl o4 ?_ | refine k48 x.fTold rfl o5.1 ?_); simp -implicitDefEqProofs (maxSteps := 3000000) only [go_sem, reduceCtorEq])
  all_goals rfl
theorem k18 {h : Heap} {tb : Nat} {K : OK} {args : List V} (x : GWorld) (hg : toDs h args = some ([.agg [.sl (strs x.fStore.fDisk.fPages), .sl (GPutS x.fStore.fDisk.fLate), .int .i64 x.fStore.fMeta.fTx, .int .i64 x.fStore.fMeta.fRoot, .int .i64 x.fStore.fMeta.fNext, .sl (GFreeS x.fStore.fMeta.fFrees), .sl (GReaderS x.fStore.fReaders), .int .i64 x.fStore.fTxn.fBase.fTx, .int .i64 x.fStore.fTxn.fBase.fRoot, .int .i64 x.fStore.fTxn.fBase.fNext, .sl (GFreeS x.fStore.fTxn.fBase.fFrees), .sl (strs x.fStore.fTxn.fWork.fDisk.fPages), .sl (GPutS x.fStore.fTxn.fWork.fDisk.fLate), .int .i64 x.fStore.fTxn.fWork.fNext, .sl (ints x.fStore.fTxn.fWork.fUsable), .sl (ints x.fStore.fTxn.fWork.fGone), .sl (ints x.fStore.fTxn.fWork.fFresh), .int .i64 x.fStore.fTxn.fRoot, .bool x.fStore.fWriting, .bool x.fStore.fFailed, .sl (GPairS x.fModel), .sl (GPairS x.fNext), .sl (GSeenS x.fSeens), .sl (ints x.fCodes), .sl (strs x.fTold)]], [])) (hx : smallGWorld x)
    (hk : K (.d (.agg [.sl (strs x.fStore.fDisk.fPages), .sl (GPutS x.fStore.fDisk.fLate), .int .i64 x.fStore.fMeta.fTx, .int .i64 x.fStore.fMeta.fRoot, .int .i64 x.fStore.fMeta.fNext, .sl (GFreeS x.fStore.fMeta.fFrees), .sl (GReaderS x.fStore.fReaders), .int .i64 x.fStore.fTxn.fBase.fTx, .int .i64 x.fStore.fTxn.fBase.fRoot, .int .i64 x.fStore.fTxn.fBase.fNext, .sl (GFreeS x.fStore.fTxn.fBase.fFrees), .sl (strs x.fStore.fTxn.fWork.fDisk.fPages), .sl (GPutS x.fStore.fTxn.fWork.fDisk.fLate), .int .i64 x.fStore.fTxn.fWork.fNext, .sl (ints x.fStore.fTxn.fWork.fUsable), .sl (ints x.fStore.fTxn.fWork.fGone), .sl (ints x.fStore.fTxn.fWork.fFresh), .int .i64 x.fStore.fTxn.fRoot, .bool x.fStore.fWriting, .bool x.fStore.fFailed, .sl (GPairS x.fModel), .sl (GPairS x.fNext), .sl (GSeenS x.fSeens), .sl (ints x.fCodes), .sl (strs x.fTold)])) []) : callVC Go.Proofs.Tryz.prog h tb 18 args K :=
  call_free hg (c18 x hx) rfl (.inl rfl) hk
@[go_sem] def hr20 : Hints
  | 0 => [0, 1] | 1 => [2, 3] | 2 => [] | 3 => [2, 3] | 4 => [] | 5 => [2, 3] | 6 => [] | 7 => [2, 3] | 8 => [] | 9 => [2, 3] | 10 => [] | 11 => [2, 3] | 12 => [] | 13 => [] | _ => []
@[go_sem] def hl20 : Hints := fun _ => []
attribute [go_sem] Go.Proofs.Tryz.results20
set_option maxHeartbeats 2000000 in
theorem c20 (x : GWorld) (hx : okGWorld x) : CallOK Go.Proofs.Tryz.prog 20 [.d (.agg x.cells), .d (.agg x.cells)] [] [.dead, .dead] (.d (.bool true)) [] := by
  refine call_of tysZOK mixedZ Go.Proofs.Tryz.func20 (by kernel_rfl) rfl (np := [false, false]) (by kernel_rfl) hr20 hl20 (by simp [Go.Proofs.Tryz.ntmps20]) ?_
  obtain ⟨o0, o1, o2, o3, o4, o5⟩ := hx
  simp -implicitDefEqProofs (maxSteps := 3000000) only [go_sem, reduceCtorEq, GWorld.cells, decide_true]
  repeat ((first | refine req (by first | assumption | omega) ?_ | refine k50 x.fStore rfl o0 ?_ | refine k51 x.fModel rfl o1 ?_ | refine k51 x.fNext rfl o2 ?_ | refine k52 x.fSeens rfl o3 ?_ | refine k53 x.fCodes rfl o4 ?_ | refine k54 x.fTold rfl o5.1 ?_); simp -implicitDefEqProofs (maxSteps := 3000000) only [go_sem, reduceCtorEq, decide_true, beq_self_eq_true])
theorem k20 {h : Heap} {tb : Nat} {K : OK} {args : List V} {ls : List Nat} (x : GWorld) (hg : toDs h args = some ([.agg [.sl (strs x.fStore.fDisk.fPages), .sl (GPutS x.fStore.fDisk.fLate), .int .i64 x.fStore.fMeta.fTx, .int .i64 x.fStore.fMeta.fRoot, .int .i64 x.fStore.fMeta.fNext, .sl (GFreeS x.fStore.fMeta.fFrees), .sl (GReaderS x.fStore.fReaders), .int .i64 x.fStore.fTxn.fBase.fTx, .int .i64 x.fStore.fTxn.fBase.fRoot, .int .i64 x.fStore.fTxn.fBase.fNext, .sl (GFreeS x.fStore.fTxn.fBase.fFrees), .sl (strs x.fStore.fTxn.fWork.fDisk.fPages), .sl (GPutS x.fStore.fTxn.fWork.fDisk.fLate), .int .i64 x.fStore.fTxn.fWork.fNext, .sl (ints x.fStore.fTxn.fWork.fUsable), .sl (ints x.fStore.fTxn.fWork.fGone), .sl (ints x.fStore.fTxn.fWork.fFresh), .int .i64 x.fStore.fTxn.fRoot, .bool x.fStore.fWriting, .bool x.fStore.fFailed, .sl (GPairS x.fModel), .sl (GPairS x.fNext), .sl (GSeenS x.fSeens), .sl (ints x.fCodes), .sl (strs x.fTold)], .agg [.sl (strs x.fStore.fDisk.fPages), .sl (GPutS x.fStore.fDisk.fLate), .int .i64 x.fStore.fMeta.fTx, .int .i64 x.fStore.fMeta.fRoot, .int .i64 x.fStore.fMeta.fNext, .sl (GFreeS x.fStore.fMeta.fFrees), .sl (GReaderS x.fStore.fReaders), .int .i64 x.fStore.fTxn.fBase.fTx, .int .i64 x.fStore.fTxn.fBase.fRoot, .int .i64 x.fStore.fTxn.fBase.fNext, .sl (GFreeS x.fStore.fTxn.fBase.fFrees), .sl (strs x.fStore.fTxn.fWork.fDisk.fPages), .sl (GPutS x.fStore.fTxn.fWork.fDisk.fLate), .int .i64 x.fStore.fTxn.fWork.fNext, .sl (ints x.fStore.fTxn.fWork.fUsable), .sl (ints x.fStore.fTxn.fWork.fGone), .sl (ints x.fStore.fTxn.fWork.fFresh), .int .i64 x.fStore.fTxn.fRoot, .bool x.fStore.fWriting, .bool x.fStore.fFailed, .sl (GPairS x.fModel), .sl (GPairS x.fNext), .sl (GSeenS x.fSeens), .sl (ints x.fCodes), .sl (strs x.fTold)]], ls)) (hx : okGWorld x)
    (hk : K (.d (.bool true)) []) : callVC Go.Proofs.Tryz.prog h tb 20 args K :=
  call_free hg (c20 x hx) rfl (.inr ⟨.d (.bool _), flatH_nil⟩) hk

end Go.Rx

namespace Go.Rx
open Go
attribute [local irreducible] Req Way WayG Sel callVC CallOK
set_option linter.unusedSimpArgs false
set_option linter.unusedVariables false

@[go_sem] def hr162 : Hints
  | 0 => [0, 1, 2] | 1 => [0, 1, 2] | _ => []
@[go_sem] def hl162 : Hints := fun _ => []
attribute [go_sem] Go.Proofs.Tryz.results162
set_option maxRecDepth 100000 in
set_option maxHeartbeats 4000000 in
theorem ci_in (n lo hi : Int) : CallOK Go.Proofs.Tryz.prog 162 [.d (.int .i64 n), .d (.int .i64 lo), .d (.int .i64 hi)] [] [.dead, .dead, .dead] (.d (.bool (decide (lo ≤ n ∧ n ≤ hi)))) [] := by
  refine call_of tysZOK mixedZ Go.Proofs.Tryz.func162 (by kernel_rfl) rfl (np := [false, false, false]) (by kernel_rfl) hr162 hl162 (by simp [Go.Proofs.Tryz.ntmps162]) ?_
  simp -implicitDefEqProofs (maxSteps := 3000000) only [go_sem, reduceCtorEq]
  refine wayT_dec (fun h1 => ?_) (fun h1 => ?_)
  · simp -implicitDefEqProofs (maxSteps := 3000000) only [go_sem, reduceCtorEq]
    simp [h1]
  · simp -implicitDefEqProofs (maxSteps := 3000000) only [go_sem, reduceCtorEq]
    simp [h1]
theorem ki_in {h : Heap} {tb : Nat} {K : OK} {args : List V} {ls : List Nat} (n lo hi : Int) (hg : toDs h args = some ([.int .i64 n, .int .i64 lo, .int .i64 hi], ls))
    (hk : K (renV (bk tb ([])) (.d (.bool (decide (lo ≤ n ∧ n ≤ hi))))) (updN tb ([]) ([]))) : callVC Go.Proofs.Tryz.prog h tb 162 args K :=
  call_free hg (ci_in n lo hi) rfl (.inr ⟨flat_of rfl, flatHB_of rfl⟩) hk
@[go_sem] def hr26 : Hints
  | 0 => [0, 1, 2] | 1 => [0, 1, 2] | _ => []
@[go_sem] def hl26 : Hints := fun _ => []
attribute [go_sem] Go.Proofs.Tryz.results26
set_option maxRecDepth 100000 in
set_option maxHeartbeats 4000000 in
theorem cs_in (n lo hi : Int) : CallOK Go.Proofs.Tryz.prog 26 [.d (.int .i64 n), .d (.int .i64 lo), .d (.int .i64 hi)] [] [.dead, .dead, .dead] (.d (.bool (decide (lo ≤ n ∧ n ≤ hi)))) [] := by
  refine call_of tysZOK mixedZ Go.Proofs.Tryz.func26 (by kernel_rfl) rfl (np := [false, false, false]) (by kernel_rfl) hr26 hl26 (by simp [Go.Proofs.Tryz.ntmps26]) ?_
  simp -implicitDefEqProofs (maxSteps := 3000000) only [go_sem, reduceCtorEq]
  refine wayT_dec (fun h1 => ?_) (fun h1 => ?_)
  · simp -implicitDefEqProofs (maxSteps := 3000000) only [go_sem, reduceCtorEq]
    simp [h1]
  · simp -implicitDefEqProofs (maxSteps := 3000000) only [go_sem, reduceCtorEq]
    simp [h1]
theorem ks_in {h : Heap} {tb : Nat} {K : OK} {args : List V} {ls : List Nat} (n lo hi : Int) (hg : toDs h args = some ([.int .i64 n, .int .i64 lo, .int .i64 hi], ls))
    (hk : K (renV (bk tb ([])) (.d (.bool (decide (lo ≤ n ∧ n ≤ hi))))) (updN tb ([]) ([]))) : callVC Go.Proofs.Tryz.prog h tb 26 args K :=
  call_free hg (cs_in n lo hi) rfl (.inr ⟨flat_of rfl, flatHB_of rfl⟩) hk
@[go_sem] def hr131 : Hints
  | 0 => [0] | 1 => [0] | 2 => [0, 3] | 3 => [0, 3] | 4 => [0, 3] | 5 => [0, 3] | _ => []
@[go_sem] def hl131 : Hints
  | 2 => [0, 3] | _ => []
attribute [go_sem] Go.Proofs.Tryz.results131
set_option maxRecDepth 100000 in
set_option maxHeartbeats 4000000 in
theorem ci_varText (n : Nat) (hn : n < 9223372036854775808) : CallOK Go.Proofs.Tryz.prog 131 [.d (.int .i64 n)] [] [.dead] (.d (.str (varB n))) [] := by
  refine call_of tysZOK mixedZ Go.Proofs.Tryz.func131 (by kernel_rfl) rfl (np := [false]) (by kernel_rfl) hr131 hl131 (by simp [Go.Proofs.Tryz.ntmps131]) ?_
  simp -implicitDefEqProofs (maxSteps := 3000000) only [go_sem, reduceCtorEq]
  refine loop_data (α := List UInt8 × Nat) (fun x => ⟨[(0, .d (.int .i64 x.2)), (3, .own 0 0 x.1.length)], [(0, some (.arr 1 (bys x.1)))]⟩)
    (fun x => x.1 ++ varB x.2 = varB n ∧ x.2 < 9223372036854775808) (fun x => x.2) ([], n) rfl ⟨rfl, hn⟩ ?_
  rintro ⟨out, m⟩ ⟨h1, h2⟩
  simp only at h1 h2
  have hl : out.length ≤ 9 := by have := varB_len9 hn; rw [← h1, List.length_append] at this; omega
  simp -implicitDefEqProofs (maxSteps := 3000000) only [go_sem, reduceCtorEq]
  refine way_dec (fun h3 => ?_) (fun h3 => ?_)
  · have e1 := and64 (a := m) (b := 127) h2 (by omega)
    rw [and127] at e1
    have e2 := or64 (a := m % 128) (b := 128) (by omega) (by omega)
    rw [or128 (by omega)] at e2
    have e3 := shr64 (a := m) (k := 7) (by omega)
    simp only [Int.cast_ofNat_Int] at e1 e2 e3
    simp -implicitDefEqProofs (maxSteps := 3000000) only [go_sem, reduceCtorEq, e1, e2, e3, byteCell_of]
    repeat ((first | refine req (by first | assumption | omega | exact commP_of (by kernel_rfl) | (simp only [LEN]; omega) | (simp [D.one]; omega) | (simp [D.one]; done)) ?_); simp -implicitDefEqProofs (maxSteps := 3000000) only [go_sem, reduceCtorEq, e1, e2, e3, byteCell_of])
    refine next_data (out ++ [UInt8.ofNat (m % 128 + 128)], m / 128) (by simp) ⟨?_, ?_⟩ ?_
    · simp only; rw [varB_step (by omega)]; exact h1
    · simp only; omega
    · simp only; omega
  · simp -implicitDefEqProofs (maxSteps := 3000000) only [go_sem, reduceCtorEq, byteCell_of]
    repeat ((first | refine req rfl ?_ | refine req (by first | assumption | omega | exact commP_of (by kernel_rfl) | (simp only [LEN]; omega) | (simp [D.one]; omega) | (simp [D.one]; done)) ?_); simp -implicitDefEqProofs (maxSteps := 3000000) only [go_sem, reduceCtorEq, byteCell_of, bys_back, bys_str])
    rw [varB_small (by omega)] at h1
    rw [h1]
theorem ki_varText {h : Heap} {tb : Nat} {K : OK} {args : List V} {ls : List Nat} (n : Nat) (hn : n < 9223372036854775808) (hg : toDs h args = some ([.int .i64 n], ls))
    (hk : K (renV (bk tb ([])) (.d (.str (varB n)))) (updN tb ([]) ([]))) : callVC Go.Proofs.Tryz.prog h tb 131 args K :=
  call_free hg (ci_varText n hn) rfl (.inr ⟨flat_of rfl, flatHB_of rfl⟩) hk
@[go_sem] def hr202 : Hints
  | 0 => [0] | 1 => [0] | 2 => [0, 3] | 3 => [0, 3] | 4 => [0, 3] | 5 => [0, 3] | _ => []
@[go_sem] def hl202 : Hints
  | 2 => [0, 3] | _ => []
attribute [go_sem] Go.Proofs.Tryz.results202
set_option maxRecDepth 100000 in
set_option maxHeartbeats 4000000 in
theorem cs_varText (n : Nat) (hn : n < 9223372036854775808) : CallOK Go.Proofs.Tryz.prog 202 [.d (.int .i64 n)] [] [.dead] (.d (.str (varB n))) [] := by
  refine call_of tysZOK mixedZ Go.Proofs.Tryz.func202 (by kernel_rfl) rfl (np := [false]) (by kernel_rfl) hr202 hl202 (by simp [Go.Proofs.Tryz.ntmps202]) ?_
  simp -implicitDefEqProofs (maxSteps := 3000000) only [go_sem, reduceCtorEq]
  refine loop_data (α := List UInt8 × Nat) (fun x => ⟨[(0, .d (.int .i64 x.2)), (3, .own 0 0 x.1.length)], [(0, some (.arr 1 (bys x.1)))]⟩)
    (fun x => x.1 ++ varB x.2 = varB n ∧ x.2 < 9223372036854775808) (fun x => x.2) ([], n) rfl ⟨rfl, hn⟩ ?_
  rintro ⟨out, m⟩ ⟨h1, h2⟩
  simp only at h1 h2
  have hl : out.length ≤ 9 := by have := varB_len9 hn; rw [← h1, List.length_append] at this; omega
  simp -implicitDefEqProofs (maxSteps := 3000000) only [go_sem, reduceCtorEq]
  refine way_dec (fun h3 => ?_) (fun h3 => ?_)
  · have e1 : (m : Int).tmod 128 = ((m % 128 : Nat) : Int) := by rw [Int.tmod_eq_emod_of_nonneg (by omega)]; omega
    have e2 : IntKind.i64.wrap (((m % 128 : Nat) : Int) + 128) = ((m % 128 + 128 : Nat) : Int) := by rw [wrap_int (by omega) (by omega)]; omega
    have e3 : IntKind.i64.wrap ((m : Int).tdiv 128) = ((m / 128 : Nat) : Int) := by rw [Int.tdiv_eq_ediv_of_nonneg (by omega), wrap_int (by omega) (by omega)]; omega
    simp -implicitDefEqProofs (maxSteps := 3000000) only [go_sem, reduceCtorEq, e1, e2, e3, byteCell_of]
    repeat ((first | refine req (by first | assumption | omega | exact commP_of (by kernel_rfl) | (simp only [LEN]; omega) | (simp [D.one]; omega) | (simp [D.one]; done)) ?_); simp -implicitDefEqProofs (maxSteps := 3000000) only [go_sem, reduceCtorEq, e1, e2, e3, byteCell_of])
    refine next_data (out ++ [UInt8.ofNat (m % 128 + 128)], m / 128) (by simp) ⟨?_, ?_⟩ ?_
    · simp only; rw [varB_step (by omega)]; exact h1
    · simp only; omega
    · simp only; omega
  · simp -implicitDefEqProofs (maxSteps := 3000000) only [go_sem, reduceCtorEq, byteCell_of]
    repeat ((first | refine req rfl ?_ | refine req (by first | assumption | omega | exact commP_of (by kernel_rfl) | (simp only [LEN]; omega) | (simp [D.one]; omega) | (simp [D.one]; done)) ?_); simp -implicitDefEqProofs (maxSteps := 3000000) only [go_sem, reduceCtorEq, byteCell_of, bys_back, bys_str])
    rw [varB_small (by omega)] at h1
    rw [h1]
theorem ks_varText {h : Heap} {tb : Nat} {K : OK} {args : List V} {ls : List Nat} (n : Nat) (hn : n < 9223372036854775808) (hg : toDs h args = some ([.int .i64 n], ls))
    (hk : K (renV (bk tb ([])) (.d (.str (varB n)))) (updN tb ([]) ([]))) : callVC Go.Proofs.Tryz.prog h tb 202 args K :=
  call_free hg (cs_varText n hn) rfl (.inr ⟨flat_of rfl, flatHB_of rfl⟩) hk

/-! readings -/
def rvV : Option (Nat × Nat) → V
  | none => .tup [.d (.int .i64 0), .d (.int .i64 0), .d (.bool false)]
  | some (n, a) => .tup [.d (.int .i64 n), .d (.int .i64 a), .d (.bool true)]
theorem flat_rvV {o : Option (Nat × Nat)} : FlatV (rvV o) := by rcases o with _ | ⟨n, a⟩ <;> exact flat_of rfl

@[go_sem] def hr171 : Hints
  | 0 => [0, 1] | 1 => [0, 1] | 2 => [] | 3 => [0, 1] | 4 => [0, 1, 7] | 5 => [0, 1, 7, 8] | 6 => [0, 1, 7, 8] | 7 => [0, 1, 7, 8] | 8 => [0, 1, 7, 8, 9] | 9 => [0, 1, 7, 8, 9] | 10 => [1, 7, 8, 9] | 11 => [] | 12 => [1, 7, 8] | 13 => [] | _ => []
@[go_sem] def hl171 : Hints
  | 5 => [0, 1, 7, 8] | _ => []
attribute [go_sem] Go.Proofs.Tryz.results171
set_option maxRecDepth 100000 in
set_option maxHeartbeats 4000000 in
theorem ci_ReadVar (t : List UInt8) (a : Int) (ht : t.length ≤ 4611686018427387904) : CallOK Go.Proofs.Tryz.prog 171 [.d (.str t), .d (.int .i64 a)] [] [.dead, .dead] (rvV (readVar t a)) [] := by
  refine call_of tysZOK mixedZ Go.Proofs.Tryz.func171 (by kernel_rfl) rfl (np := [false, false]) (by kernel_rfl) hr171 hl171 (by simp [Go.Proofs.Tryz.ntmps171]) ?_
  simp -implicitDefEqProofs (maxSteps := 3000000) only [go_sem, reduceCtorEq]
  refine ki_in _ _ _ rfl ?_
  simp -implicitDefEqProofs (maxSteps := 3000000) only [go_sem, reduceCtorEq]
  refine way_ndec (fun h0 => ?_) (fun h0 => ?_)
  · simp -implicitDefEqProofs (maxSteps := 3000000) only [go_sem, reduceCtorEq]
    rw [readVar, if_neg h0]; rfl
  · obtain ⟨a, rfl⟩ := Int.eq_ofNat_of_zero_le h0.1
    simp -implicitDefEqProofs (maxSteps := 3000000) only [go_sem, reduceCtorEq]
    refine loop_data (α := Nat × Nat) (fun x => ⟨[(0, .d (.str t)), (1, .d (.int .i64 a)), (7, .d (.int .i64 x.2)), (8, .d (.int .i64 x.1))], []⟩)
      (fun x => x.1 ≤ 5 ∧ x.2 < 128 ^ x.1 ∧ a + x.1 ≤ t.length ∧ rvGo x.1 x.2 (t.drop (a + x.1)) = rv (t.drop a)) (fun x => 5 - x.1) (0, 0) rfl ⟨by omega, by simp, by omega, by simp [rv]⟩ ?_
    rintro ⟨k, n⟩ ⟨h1, h2, h3, h4⟩
    simp only at h1 h2 h3 h4
    have hadd : IntKind.i64.wrap ((a : Int) + (k : Int)) = ((a + k : Nat) : Int) := by rw [wrap_int (by omega) (by omega)]; omega
    simp -implicitDefEqProofs (maxSteps := 3000000) only [go_sem, reduceCtorEq, hadd]
    refine wayT_dec (fun h5 => ?_) (fun h5 => ?_)
    · simp -implicitDefEqProofs (maxSteps := 3000000) only [go_sem, reduceCtorEq, hadd]
      refine way_dec (fun h6 => ?_) (fun h6 => ?_)
      · obtain ⟨x, hx⟩ := some_at h6
        rw [drop_cons hx] at h4
        have hx0 := byte_lt x
        have hp : 128 ^ (k + 1) ≤ 128 ^ 5 := Nat.pow_le_pow_right (by omega) (by omega)
        have hp5 : (128 : Nat) ^ 5 = 34359738368 := by decide
        have hps : 128 ^ (k + 1) = 128 ^ k * 128 := Nat.pow_succ ..
        have e0 : IntKind.i64.wrap ((x.toNat : Nat) : Int) = (x.toNat : Nat) := wrap_nat (by omega)
        have e1 := and64 (a := x.toNat) (b := 127) (by omega) (by omega)
        rw [and127] at e1
        have hm : x.toNat % 128 * 128 ^ k ≤ 127 * 128 ^ k := Nat.mul_le_mul_right _ (by omega)
        have e2 := shl64 (a := x.toNat % 128) (k := 7 * k) (by omega) (by rw [pow7]; omega)
        have e3 := or64 (a := n) (b := x.toNat % 128 * 2 ^ (7 * k)) (by omega) (by rw [pow7]; omega)
        rw [or_apart (by rw [pow7]; exact h2), pow7] at e3
        rw [pow7] at e2
        have e4 : IntKind.i64.wrap (7 * (k : Int)) = ((7 * k : Nat) : Int) := by rw [wrap_int (by omega) (by omega)]; omega
        simp only [Int.cast_ofNat_Int] at e1 e2 e3
        simp -implicitDefEqProofs (maxSteps := 3000000) only [go_sem, reduceCtorEq, hadd, getD_some hx, e0, e1, e2, e3, e4]
        repeat ((first | refine req (by first | assumption | omega | exact commP_of (by kernel_rfl) | (simp only [LEN]; omega) | (simp [D.one]; omega) | (simp [D.one]; done)) ?_); simp -implicitDefEqProofs (maxSteps := 3000000) only [go_sem, reduceCtorEq, hadd, getD_some hx, e0, e1, e2, e3, e4])
        refine way_dec (fun h7 => ?_) (fun h7 => ?_)
        · simp -implicitDefEqProofs (maxSteps := 3000000) only [go_sem, reduceCtorEq]
          rw [rvGo, if_neg (by omega), if_pos (by omega)] at h4
          refine next_data (k + 1, n + x.toNat % 128 * 128 ^ k) ?_ ⟨?_, ?_, ?_, ?_⟩ ?_
          · rw [wrap_succ (by simp only [LEN]; omega)]
          · simp only; omega
          · simp only; omega
          · simp only; omega
          · simp only; rw [← h4]; congr 1
          · simp only; omega
        · simp -implicitDefEqProofs (maxSteps := 3000000) only [go_sem, reduceCtorEq]
          rw [rvGo, if_neg (by omega), if_neg (by omega)] at h4
          have hmod : x.toNat % 128 = x.toNat := by omega
          rw [hmod]
          (first | (refine way_dec (fun h8 => ?_) (fun h8 => ?_)) | (refine way_ndec (fun h8 => ?_) (fun h8 => ?_)) | (refine wayT_dec (fun h8 => ?_) (fun h8 => ?_)) | (refine wayF_dec (fun h8 => ?_) (fun h8 => ?_)) | (refine wayT_ndec (fun h8 => ?_) (fun h8 => ?_)) | (refine wayF_ndec (fun h8 => ?_) (fun h8 => ?_)) | (refine way_not (fun h8 => ?_) (fun h8 => ?_)) | (refine way (fun h8 => ?_) (fun h8 => ?_)) | (refine wayT (fun h8 => ?_) (fun h8 => ?_)) | (refine wayF (fun h8 => ?_) (fun h8 => ?_)))
          · simp -implicitDefEqProofs (maxSteps := 3000000) only [go_sem, reduceCtorEq]
            (first | (refine way_dec (fun h9 => ?_) (fun h9 => ?_)) | (refine way_ndec (fun h9 => ?_) (fun h9 => ?_)) | (refine wayT_dec (fun h9 => ?_) (fun h9 => ?_)) | (refine wayF_dec (fun h9 => ?_) (fun h9 => ?_)) | (refine wayT_ndec (fun h9 => ?_) (fun h9 => ?_)) | (refine wayF_ndec (fun h9 => ?_) (fun h9 => ?_)) | (refine way_not (fun h9 => ?_) (fun h9 => ?_)) | (refine way (fun h9 => ?_) (fun h9 => ?_)) | (refine wayT (fun h9 => ?_) (fun h9 => ?_)) | (refine wayF (fun h9 => ?_) (fun h9 => ?_)))
            · simp -implicitDefEqProofs (maxSteps := 3000000) only [go_sem, reduceCtorEq]
              (first | (refine way_dec (fun h10 => ?_) (fun h10 => ?_)) | (refine way_ndec (fun h10 => ?_) (fun h10 => ?_)) | (refine wayT_dec (fun h10 => ?_) (fun h10 => ?_)) | (refine wayF_dec (fun h10 => ?_) (fun h10 => ?_)) | (refine wayT_ndec (fun h10 => ?_) (fun h10 => ?_)) | (refine wayF_ndec (fun h10 => ?_) (fun h10 => ?_)) | (refine way_not (fun h10 => ?_) (fun h10 => ?_)) | (refine way (fun h10 => ?_) (fun h10 => ?_)) | (refine wayT (fun h10 => ?_) (fun h10 => ?_)) | (refine wayF (fun h10 => ?_) (fun h10 => ?_)))
              · simp -implicitDefEqProofs (maxSteps := 3000000) only [go_sem, reduceCtorEq]
                rw [if_pos (by omega)] at h4
                rw [readVar, if_pos h0, Int.toNat_natCast, ← h4]; rfl
              · simp -implicitDefEqProofs (maxSteps := 3000000) only [go_sem, reduceCtorEq]
                rw [if_neg (by omega)] at h4
                rw [readVar, if_pos h0, Int.toNat_natCast, ← h4]
                have g1 : IntKind.i64.wrap (((a + k : Nat) : Int) + 1) = ((a + k + 1 : Nat) : Int) := by rw [wrap_int (by omega) (by omega)]; omega
                have g2 : t.length - (t.length - (a + k + 1)) = a + k + 1 := by omega
                simp only [Option.map_some, rvV, List.length_drop, hadd, g1, g2]
            · simp -implicitDefEqProofs (maxSteps := 3000000) only [go_sem, reduceCtorEq]
              rw [if_pos (by omega)] at h4
              rw [readVar, if_pos h0, Int.toNat_natCast, ← h4]; rfl
          · simp -implicitDefEqProofs (maxSteps := 3000000) only [go_sem, reduceCtorEq]
            (first | (refine way_dec (fun h10 => ?_) (fun h10 => ?_)) | (refine way_ndec (fun h10 => ?_) (fun h10 => ?_)) | (refine wayT_dec (fun h10 => ?_) (fun h10 => ?_)) | (refine wayF_dec (fun h10 => ?_) (fun h10 => ?_)) | (refine wayT_ndec (fun h10 => ?_) (fun h10 => ?_)) | (refine wayF_ndec (fun h10 => ?_) (fun h10 => ?_)) | (refine way_not (fun h10 => ?_) (fun h10 => ?_)) | (refine way (fun h10 => ?_) (fun h10 => ?_)) | (refine wayT (fun h10 => ?_) (fun h10 => ?_)) | (refine wayF (fun h10 => ?_) (fun h10 => ?_)))
            · simp -implicitDefEqProofs (maxSteps := 3000000) only [go_sem, reduceCtorEq]
              rw [if_pos (by omega)] at h4
              rw [readVar, if_pos h0, Int.toNat_natCast, ← h4]; rfl
            · simp -implicitDefEqProofs (maxSteps := 3000000) only [go_sem, reduceCtorEq]
              rw [if_neg (by omega)] at h4
              rw [readVar, if_pos h0, Int.toNat_natCast, ← h4]
              have g1 : IntKind.i64.wrap (((a + k : Nat) : Int) + 1) = ((a + k + 1 : Nat) : Int) := by rw [wrap_int (by omega) (by omega)]; omega
              have g2 : t.length - (t.length - (a + k + 1)) = a + k + 1 := by omega
              simp only [Option.map_some, rvV, List.length_drop, hadd, g1, g2]
      · simp -implicitDefEqProofs (maxSteps := 3000000) only [go_sem, reduceCtorEq]
        rw [List.drop_eq_nil_of_le (by omega)] at h4
        rw [readVar, if_pos h0, Int.toNat_natCast, ← h4]; rfl
    · simp -implicitDefEqProofs (maxSteps := 3000000) only [go_sem, reduceCtorEq]
      have : rvGo k n (t.drop (a + k)) = none := by
        cases t.drop (a + k) with
        | nil => rfl
        | cons x l => rw [rvGo, if_pos (by omega)]
      rw [this] at h4
      rw [readVar, if_pos h0, Int.toNat_natCast, ← h4]; rfl
theorem ki_ReadVar {h : Heap} {tb : Nat} {K : OK} {args : List V} {ls : List Nat} (t : List UInt8) (a : Int) (ht : t.length ≤ 4611686018427387904) (hg : toDs h args = some ([.str t, .int .i64 a], ls)) (hfl : FlatV (rvV (readVar t a)) ∧ FlatH ([]))
    (hk : K (renV (bk tb ([])) (rvV (readVar t a))) (updN tb ([]) ([]))) : callVC Go.Proofs.Tryz.prog h tb 171 args K :=
  call_free hg (ci_ReadVar t a ht) rfl (.inr hfl) hk
end Go.Rx

namespace Go.Rx
open Go
attribute [local irreducible] Req Way WayG Sel callVC CallOK
set_option linter.unusedSimpArgs false
set_option linter.unusedVariables false

/-- The number that stands in some bytes, and whether they are its shortest form. -/
theorem rvGo_low : ∀ {l : List UInt8} {k n : Nat} {v : Nat} {rest : List UInt8}, rvGo k n l = some (v, rest) → n ≤ v
  | [], k, n, v, rest, h => by cases h
  | x :: l, k, n, v, rest, h => by
    obtain ⟨_, m, h2, _, _⟩ := rvGo_iff.1 h
    rw [h2]; exact Nat.le_add_right _ _

/-- Bytes ahead of the last one: each says that it goes on. -/
def more (l : List UInt8) : Prop := ∀ x ∈ l, 127 < x.toNat
def valB : List UInt8 → Nat
  | [] => 0
  | x :: l => x.toNat % 128 + 128 * valB l
theorem valB_snoc {l : List UInt8} {x : UInt8} : valB (l ++ [x]) = valB l + x.toNat % 128 * 128 ^ l.length := by
  induction l with
  | nil => simp [valB]
  | cons y l ih =>
    simp only [List.cons_append, valB, List.length_cons, ih, Nat.mul_add, Nat.pow_succ]
    have : 128 * (x.toNat % 128 * 128 ^ l.length) = x.toNat % 128 * (128 ^ l.length * 128) := by rw [Nat.mul_comm, Nat.mul_assoc]
    omega
theorem valB_lt {l : List UInt8} : valB l < 128 ^ l.length := by
  induction l with
  | nil => simp [valB]
  | cons y l ih => simp only [valB, List.length_cons, Nat.pow_succ]; have := byte_lt y; omega
theorem rvGo_more : ∀ {l : List UInt8} {r : List UInt8} {k n : Nat}, more l → k + l.length ≤ 5 → rvGo k n (l ++ r) = rvGo (k + l.length) (n + valB l * 128 ^ k) r
  | [], r, k, n, _, _ => by simp [valB]
  | x :: l, r, k, n, h, hk => by
    simp only [List.length_cons] at hk
    rw [List.cons_append, rvGo, if_neg (by omega), if_pos (h x (by simp)), rvGo_more (fun y hy => h y (by simp [hy])) (by omega)]
    simp only [List.length_cons, valB]
    congr 1
    · omega
    · rw [Nat.pow_succ, Nat.add_mul, Nat.mul_comm 128 (valB l), Nat.mul_assoc, Nat.mul_comm 128, Nat.add_assoc]
/-- At the last byte: the shortest form is what is taken. -/
theorem rv_last {l r : List UInt8} {x : UInt8} (hm : more l) (hl : l.length < 5) (hx : x.toNat < 128) :
    rv (l ++ x :: r) = if 1000000000 < valB (l ++ [x]) ∨ varB (valB (l ++ [x])) ≠ l ++ [x] then none else some (valB (l ++ [x]), r) := by
  have h0 : rv (l ++ x :: r) = rvGo l.length (valB l) (x :: r) := by
    unfold rv; rw [rvGo_more hm (by omega)]; simp
  have hv : valB (l ++ [x]) = valB l + x.toNat * 128 ^ l.length := by rw [valB_snoc, Nat.mod_eq_of_lt hx]
  split
  · rename_i h
    rw [h0, rvGo, if_neg (by omega), if_neg (by omega)]
    split
    · rfl
    · rename_i h2
      exfalso
      have h3 : rv (l ++ x :: r) = some (valB (l ++ [x]), r) := by
        rw [h0, rvGo, if_neg (by omega), if_neg (by omega), if_neg h2, hv]
      obtain ⟨g1, g2⟩ := rv_iff.1 h3
      rcases h with h | h
      · omega
      · have : l ++ [x] ++ r = varB (valB (l ++ [x])) ++ r := by rw [← g2]; simp
        exact h (List.append_cancel_right this).symm
  · rename_i h
    exact rv_iff.2 ⟨by omega, by rw [Decidable.byContradiction fun e => h (.inr e)]; simp⟩
theorem rv_long {l : List UInt8} (hm : more l) (hl : l.length = 5) {r : List UInt8} : rv (l ++ r) = none := by
  unfold rv; rw [rvGo_more hm (by omega)]
  cases r with
  | nil => rfl
  | cons x r => rw [rvGo, if_pos (by omega)]
theorem rv_short {l : List UInt8} (hm : more l) (hl : l.length ≤ 5) : rv l = none := by
  have := rvGo_more (r := []) (k := 0) (n := 0) hm (by omega)
  rw [List.append_nil] at this
  unfold rv; rw [this]; rfl

@[go_sem] def hr179 : Hints
  | 0 => [0, 1] | 1 => [0, 1] | 2 => [] | 3 => [0, 1] | 4 => [0, 1, 7] | 5 => [0, 1, 7, 8] | 6 => [0, 1, 7, 8, 9] | 7 => [0, 1, 7, 8, 9] | 8 => [0, 1, 7, 8, 9] | 9 => [0, 1, 7, 8, 9] | 10 => [0, 1, 7, 8, 9] | 11 => [0, 1, 7, 9] | 12 => [] | 13 => [7, 9] | 14 => [] | _ => []
@[go_sem] def hl179 : Hints
  | 6 => [0, 1, 7, 8, 9] | _ => []
attribute [go_sem] Go.Proofs.Tryz.results179
set_option maxRecDepth 100000 in
set_option maxHeartbeats 4000000 in
theorem cs_ReadVar (t : List UInt8) (a : Int) (ht : t.length ≤ 4611686018427387904) : CallOK Go.Proofs.Tryz.prog 179 [.d (.str t), .d (.int .i64 a)] [] [.dead, .dead] (rvV (readVar t a)) [] := by
  refine call_of tysZOK mixedZ Go.Proofs.Tryz.func179 (by kernel_rfl) rfl (np := [false, false]) (by kernel_rfl) hr179 hl179 (by simp [Go.Proofs.Tryz.ntmps179]) ?_
  simp -implicitDefEqProofs (maxSteps := 3000000) only [go_sem, reduceCtorEq]
  refine ks_in _ _ _ rfl ?_
  simp -implicitDefEqProofs (maxSteps := 3000000) only [go_sem, reduceCtorEq]
  refine way_ndec (fun h0 => ?_) (fun h0 => ?_)
  · simp -implicitDefEqProofs (maxSteps := 3000000) only [go_sem, reduceCtorEq]
    rw [readVar, if_neg h0]; rfl
  · obtain ⟨a, rfl⟩ := Int.eq_ofNat_of_zero_le h0.1
    simp -implicitDefEqProofs (maxSteps := 3000000) only [go_sem, reduceCtorEq]
    refine loop_data (α := Nat) (fun k => ⟨[(0, .d (.str t)), (1, .d (.int .i64 a)), (7, .d (.int .i64 (valB ((t.drop a).take k) : Nat))), (8, .d (.int .i64 (128 ^ k : Nat))), (9, .d (.int .i64 ((a + k : Nat) : Int)))], []⟩)
      (fun k => k ≤ 5 ∧ a + k ≤ t.length ∧ more ((t.drop a).take k)) (fun k => 5 - k) 0 ?_ ⟨by omega, by omega, fun x hx => by simp at hx⟩ ?_
    · simp [valB]
    rintro k ⟨h1, h2, h3⟩
    have hadd : IntKind.i64.wrap ((a : Int) + 5) = ((a + 5 : Nat) : Int) := by rw [wrap_int (by omega) (by omega)]; omega
    have hlen : ((t.drop a).take k).length = k := by simp; omega
    have hsplit : t.drop a = (t.drop a).take k ++ t.drop (a + k) := by rw [← List.drop_drop, List.take_append_drop]
    have hvl := valB_lt (l := (t.drop a).take k)
    rw [hlen] at hvl
    simp -implicitDefEqProofs (maxSteps := 3000000) only [go_sem, reduceCtorEq, hadd]
    (first | (refine way_dec (fun h5 => ?_) (fun h5 => ?_)) | (refine way_ndec (fun h5 => ?_) (fun h5 => ?_)) | (refine wayT_dec (fun h5 => ?_) (fun h5 => ?_)) | (refine wayF_dec (fun h5 => ?_) (fun h5 => ?_)) | (refine wayT_ndec (fun h5 => ?_) (fun h5 => ?_)) | (refine wayF_ndec (fun h5 => ?_) (fun h5 => ?_)) | (refine way_not (fun h5 => ?_) (fun h5 => ?_)) | (refine way (fun h5 => ?_) (fun h5 => ?_)) | (refine wayT (fun h5 => ?_) (fun h5 => ?_)) | (refine wayF (fun h5 => ?_) (fun h5 => ?_)))
    · simp -implicitDefEqProofs (maxSteps := 3000000) only [go_sem, reduceCtorEq, hadd]
      (first | (refine way_dec (fun h6 => ?_) (fun h6 => ?_)) | (refine way_ndec (fun h6 => ?_) (fun h6 => ?_)) | (refine wayT_dec (fun h6 => ?_) (fun h6 => ?_)) | (refine wayF_dec (fun h6 => ?_) (fun h6 => ?_)) | (refine wayT_ndec (fun h6 => ?_) (fun h6 => ?_)) | (refine wayF_ndec (fun h6 => ?_) (fun h6 => ?_)) | (refine way_not (fun h6 => ?_) (fun h6 => ?_)) | (refine way (fun h6 => ?_) (fun h6 => ?_)) | (refine wayT (fun h6 => ?_) (fun h6 => ?_)) | (refine wayF (fun h6 => ?_) (fun h6 => ?_)))
      · obtain ⟨x, hx⟩ := some_at (l := t) (i := a + k) h5
        have hx0 := byte_lt x
        have hp : 128 ^ (k + 1) ≤ 128 ^ 5 := Nat.pow_le_pow_right (by omega) (by omega)
        have hp5 : (128 : Nat) ^ 5 = 34359738368 := by decide
        have hps : 128 ^ (k + 1) = 128 ^ k * 128 := Nat.pow_succ ..
        have hd : (t.drop a)[k]? = some x := by rw [List.getElem?_drop]; exact hx
        have e0 : IntKind.i64.wrap ((x.toNat : Nat) : Int) = (x.toNat : Nat) := wrap_nat (by omega)
        have e1 : ((x.toNat : Nat) : Int).tmod 128 = ((x.toNat % 128 : Nat) : Int) := by rw [Int.tmod_eq_emod_of_nonneg (by omega)]; omega
        have hm : x.toNat % 128 * 128 ^ k ≤ 127 * 128 ^ k := Nat.mul_le_mul_right _ (by omega)
        have e2 : IntKind.i64.wrap (((x.toNat % 128 : Nat) : Int) * ((128 ^ k : Nat) : Int)) = ((x.toNat % 128 * 128 ^ k : Nat) : Int) := by
          have : (((x.toNat % 128 : Nat) : Int) * ((128 ^ k : Nat) : Int)) = ((x.toNat % 128 * 128 ^ k : Nat) : Int) := by norm_cast
          rw [this]; exact wrap_nat (by omega)
        have e3 : IntKind.i64.wrap ((valB ((t.drop a).take k) : Nat) + ((x.toNat % 128 * 128 ^ k : Nat) : Int)) = ((valB ((t.drop a).take (k + 1)) : Nat) : Int) := by
          rw [take_snoc hd, valB_snoc, hlen, wrap_int (by omega) (by omega)]; omega
        have e4 : IntKind.i64.wrap (((128 ^ k : Nat) : Int) * 128) = ((128 ^ (k + 1) : Nat) : Int) := by rw [wrap_int (by omega) (by omega)]; omega
        have e5 : IntKind.i64.wrap (((a + k : Nat) : Int) + 1) = ((a + (k + 1) : Nat) : Int) := by rw [wrap_int (by omega) (by omega)]; omega
        have hv2 := valB_lt (l := (t.drop a).take (k + 1))
        have hl2 : ((t.drop a).take (k + 1)).length = k + 1 := by simp; omega
        rw [hl2] at hv2
        have hsl : (t.take (a + (k + 1))).drop a = (t.drop a).take (k + 1) := by rw [List.drop_take]; congr 1; omega
        have hdx := drop_cons hx
        simp -implicitDefEqProofs (maxSteps := 3000000) only [go_sem, reduceCtorEq, hadd, getD_some hx, e0, e1, e2, e3, e4, e5]
        repeat ((first | refine req (by first | assumption | omega | exact commP_of (by kernel_rfl) | (simp only [LEN]; omega) | (simp [D.one]; omega) | (simp [D.one]; done)) ?_); simp -implicitDefEqProofs (maxSteps := 3000000) only [go_sem, reduceCtorEq, hadd, getD_some hx, e0, e1, e2, e3, e4, e5])
        (first | (refine way_dec (fun h7 => ?_) (fun h7 => ?_)) | (refine way_ndec (fun h7 => ?_) (fun h7 => ?_)) | (refine wayT_dec (fun h7 => ?_) (fun h7 => ?_)) | (refine wayF_dec (fun h7 => ?_) (fun h7 => ?_)) | (refine wayT_ndec (fun h7 => ?_) (fun h7 => ?_)) | (refine wayF_ndec (fun h7 => ?_) (fun h7 => ?_)) | (refine way_not (fun h7 => ?_) (fun h7 => ?_)) | (refine way (fun h7 => ?_) (fun h7 => ?_)) | (refine wayT (fun h7 => ?_) (fun h7 => ?_)) | (refine wayF (fun h7 => ?_) (fun h7 => ?_)))
        · have hx7 : x.toNat < 128 := by omega
          have hrv := rv_last (r := t.drop (a + k + 1)) h3 (by omega) hx7
          rw [← hdx, ← hsplit, ← take_snoc hd] at hrv
          by_cases h8 : (1000000000 : Int) < ((valB ((t.drop a).take (k + 1)) : Nat) : Int)
          · have d8 := decide_eq_true h8
            simp -implicitDefEqProofs (maxSteps := 3000000) only [go_sem, reduceCtorEq, d8]
            repeat ((first | refine req (by first | assumption | omega | exact commP_of (by kernel_rfl) | (simp only [LEN]; omega) | (simp [D.one]; omega) | (simp [D.one]; done)) ?_); simp -implicitDefEqProofs (maxSteps := 3000000) only [go_sem, reduceCtorEq, d8])
            rw [if_pos (.inl (by omega))] at hrv
            rw [readVar, if_pos h0, Int.toNat_natCast, hrv]; rfl
          · have d8 := decide_eq_false h8
            simp -implicitDefEqProofs (maxSteps := 3000000) only [go_sem, reduceCtorEq, d8]
            refine ks_varText (valB ((t.drop a).take (k + 1))) (by omega) rfl ?_
            simp -implicitDefEqProofs (maxSteps := 3000000) only [go_sem, reduceCtorEq, d8, e5, hsl]
            repeat ((first | refine req (by first | assumption | omega | exact commP_of (by kernel_rfl) | (simp only [LEN]; omega) | (simp [D.one]; omega) | (simp [D.one]; done)) ?_); simp -implicitDefEqProofs (maxSteps := 3000000) only [go_sem, reduceCtorEq, d8, e5, hsl])
            (first | (refine way_dec (fun h9 => ?_) (fun h9 => ?_)) | (refine way_ndec (fun h9 => ?_) (fun h9 => ?_)) | (refine wayT_dec (fun h9 => ?_) (fun h9 => ?_)) | (refine wayF_dec (fun h9 => ?_) (fun h9 => ?_)) | (refine wayT_ndec (fun h9 => ?_) (fun h9 => ?_)) | (refine wayF_ndec (fun h9 => ?_) (fun h9 => ?_)) | (refine way_not (fun h9 => ?_) (fun h9 => ?_)) | (refine way (fun h9 => ?_) (fun h9 => ?_)) | (refine wayT (fun h9 => ?_) (fun h9 => ?_)) | (refine wayF (fun h9 => ?_) (fun h9 => ?_)))
            · simp -implicitDefEqProofs (maxSteps := 3000000) only [go_sem, reduceCtorEq]
              rw [if_pos (.inr h9)] at hrv
              rw [readVar, if_pos h0, Int.toNat_natCast, hrv]; rfl
            · simp -implicitDefEqProofs (maxSteps := 3000000) only [go_sem, reduceCtorEq, e5]
              rw [if_neg (fun h => h.elim (fun h => by omega) (fun h => h h9))] at hrv
              rw [readVar, if_pos h0, Int.toNat_natCast, hrv]
              have g2 : t.length - (t.length - (a + k + 1)) = a + (k + 1) := by omega
              simp only [Option.map_some, rvV, List.length_drop, g2]
        · simp -implicitDefEqProofs (maxSteps := 3000000) only [go_sem, reduceCtorEq]
          refine next_data (k + 1) (by rw [e5]) ⟨by omega, by omega, ?_⟩ (by omega)
          rw [take_snoc hd]
          intro y hy
          rcases List.mem_append.1 hy with hy | hy
          · exact h3 y hy
          · simp at hy; subst hy; omega
      · simp -implicitDefEqProofs (maxSteps := 3000000) only [go_sem, reduceCtorEq]
        have hk : k = 5 := by omega
        have : rv (t.drop a) = none := by rw [hsplit]; exact rv_long h3 (by omega)
        rw [readVar, if_pos h0, Int.toNat_natCast, this]; rfl
    · simp -implicitDefEqProofs (maxSteps := 3000000) only [go_sem, reduceCtorEq]
      have he : t.drop (a + k) = [] := List.drop_eq_nil_of_le (by omega)
      rw [he, List.append_nil] at hsplit
      have : rv (t.drop a) = none := by rw [hsplit]; exact rv_short h3 (by omega)
      rw [readVar, if_pos h0, Int.toNat_natCast, this]; rfl
theorem ks_ReadVar {h : Heap} {tb : Nat} {K : OK} {args : List V} {ls : List Nat} (t : List UInt8) (a : Int) (ht : t.length ≤ 4611686018427387904) (hg : toDs h args = some ([.str t, .int .i64 a], ls)) (hfl : FlatV (rvV (readVar t a)) ∧ FlatH ([]))
    (hk : K (renV (bk tb ([])) (rvV (readVar t a))) (updN tb ([]) ([]))) : callVC Go.Proofs.Tryz.prog h tb 179 args K :=
  call_free hg (cs_ReadVar t a ht) rfl (.inr hfl) hk

def rsV : Option (List UInt8 × Nat) → V
  | none => .tup [.d (.str []), .d (.int .i64 0), .d (.bool false)]
  | some (s, a) => .tup [.d (.str s), .d (.int .i64 a), .d (.bool true)]
theorem flat_rsV {o : Option (List UInt8 × Nat)} : FlatV (rsV o) := by rcases o with _ | ⟨n, a⟩ <;> exact flat_of rfl

@[go_sem] def hr172 : Hints
  | 0 => [0, 1] | 1 => [0, 1] | 2 => [0, 7, 8, 9] | 3 => [] | 4 => [0, 7, 8] | _ => []
@[go_sem] def hl172 : Hints := fun _ => []
attribute [go_sem] Go.Proofs.Tryz.results172
set_option maxRecDepth 100000 in
set_option maxHeartbeats 4000000 in
theorem ci_ReadShort (t : List UInt8) (a : Int) (ht : t.length ≤ 4611686018427387904) : CallOK Go.Proofs.Tryz.prog 172 [.d (.str t), .d (.int .i64 a)] [] [.dead, .dead] (rsV (readShort t a)) [] := by
  refine call_of tysZOK mixedZ Go.Proofs.Tryz.func172 (by kernel_rfl) rfl (np := [false, false]) (by kernel_rfl) hr172 hl172 (by simp [Go.Proofs.Tryz.ntmps172]) ?_
  simp -implicitDefEqProofs (maxSteps := 3000000) only [go_sem, reduceCtorEq]
  refine ki_ReadVar t a ht rfl ⟨flat_rvV, flatH_nil⟩ ?_
  rw [readShort]
  cases hv : readVar t a with
  | none => 
    simp only [rvV]
    simp -implicitDefEqProofs (maxSteps := 3000000) only [go_sem, reduceCtorEq]
    rfl
  | some p =>
    obtain ⟨n, b⟩ := p
    obtain ⟨g1, g2, g3, g4⟩ := readVar_lt hv
    have e1 : IntKind.i64.wrap ((t.length : Int) - (b : Int)) = ((t.length - b : Nat) : Int) := by rw [wrap_int (by omega) (by omega)]; omega
    have e2 : IntKind.i64.wrap ((b : Int) + (n : Int)) = ((b + n : Nat) : Int) := by rw [wrap_int (by omega) (by omega)]; omega
    simp only [rvV]
    simp -implicitDefEqProofs (maxSteps := 3000000) only [go_sem, reduceCtorEq, e1, e2]
    (first | (refine way_dec (fun h1 => ?_) (fun h1 => ?_)) | (refine way_ndec (fun h1 => ?_) (fun h1 => ?_)) | (refine wayT_dec (fun h1 => ?_) (fun h1 => ?_)) | (refine wayF_dec (fun h1 => ?_) (fun h1 => ?_)) | (refine wayT_ndec (fun h1 => ?_) (fun h1 => ?_)) | (refine wayF_ndec (fun h1 => ?_) (fun h1 => ?_)) | (refine way_not (fun h1 => ?_) (fun h1 => ?_)) | (refine way (fun h1 => ?_) (fun h1 => ?_)) | (refine wayT (fun h1 => ?_) (fun h1 => ?_)) | (refine wayF (fun h1 => ?_) (fun h1 => ?_)))
    · simp -implicitDefEqProofs (maxSteps := 3000000) only [go_sem, reduceCtorEq, e1, e2]
      (first | (refine way_dec (fun h2 => ?_) (fun h2 => ?_)) | (refine way_ndec (fun h2 => ?_) (fun h2 => ?_)) | (refine wayT_dec (fun h2 => ?_) (fun h2 => ?_)) | (refine wayF_dec (fun h2 => ?_) (fun h2 => ?_)) | (refine wayT_ndec (fun h2 => ?_) (fun h2 => ?_)) | (refine wayF_ndec (fun h2 => ?_) (fun h2 => ?_)) | (refine way_not (fun h2 => ?_) (fun h2 => ?_)) | (refine way (fun h2 => ?_) (fun h2 => ?_)) | (refine wayT (fun h2 => ?_) (fun h2 => ?_)) | (refine wayF (fun h2 => ?_) (fun h2 => ?_)))
      · simp -implicitDefEqProofs (maxSteps := 3000000) only [go_sem, reduceCtorEq, e1, e2]
        rw [if_neg (by omega)]; rfl
      · simp -implicitDefEqProofs (maxSteps := 3000000) only [go_sem, reduceCtorEq, e1, e2]
        repeat ((first | refine req (by first | assumption | omega | exact commP_of (by kernel_rfl) | (simp only [LEN]; omega) | (simp [D.one]; omega) | (simp [D.one]; done)) ?_); simp -implicitDefEqProofs (maxSteps := 3000000) only [go_sem, reduceCtorEq, e1, e2])
        rw [if_pos (by omega)]; rfl
    · simp -implicitDefEqProofs (maxSteps := 3000000) only [go_sem, reduceCtorEq, e1, e2]
      rw [if_neg (by omega)]; rfl
theorem ki_ReadShort {h : Heap} {tb : Nat} {K : OK} {args : List V} {ls : List Nat} (t : List UInt8) (a : Int) (ht : t.length ≤ 4611686018427387904) (hg : toDs h args = some ([.str t, .int .i64 a], ls)) (hfl : FlatV (rsV (readShort t a)) ∧ FlatH ([]))
    (hk : K (renV (bk tb ([])) (rsV (readShort t a))) (updN tb ([]) ([]))) : callVC Go.Proofs.Tryz.prog h tb 172 args K :=
  call_free hg (ci_ReadShort t a ht) rfl (.inr hfl) hk
@[go_sem] def hr180 : Hints
  | 0 => [0, 1] | 1 => [0, 1] | 2 => [0, 7, 8, 9] | 3 => [] | 4 => [0, 7, 8] | _ => []
@[go_sem] def hl180 : Hints := fun _ => []
attribute [go_sem] Go.Proofs.Tryz.results180
set_option maxRecDepth 100000 in
set_option maxHeartbeats 4000000 in
theorem cs_ReadShort (t : List UInt8) (a : Int) (ht : t.length ≤ 4611686018427387904) : CallOK Go.Proofs.Tryz.prog 180 [.d (.str t), .d (.int .i64 a)] [] [.dead, .dead] (rsV (readShort t a)) [] := by
  refine call_of tysZOK mixedZ Go.Proofs.Tryz.func180 (by kernel_rfl) rfl (np := [false, false]) (by kernel_rfl) hr180 hl180 (by simp [Go.Proofs.Tryz.ntmps180]) ?_
  simp -implicitDefEqProofs (maxSteps := 3000000) only [go_sem, reduceCtorEq]
  refine ks_ReadVar t a ht rfl ⟨flat_rvV, flatH_nil⟩ ?_
  rw [readShort]
  cases hv : readVar t a with
  | none => 
    simp only [rvV]
    simp -implicitDefEqProofs (maxSteps := 3000000) only [go_sem, reduceCtorEq]
    rfl
  | some p =>
    obtain ⟨n, b⟩ := p
    obtain ⟨g1, g2, g3, g4⟩ := readVar_lt hv
    have e1 : IntKind.i64.wrap ((t.length : Int) - (b : Int)) = ((t.length - b : Nat) : Int) := by rw [wrap_int (by omega) (by omega)]; omega
    have e2 : IntKind.i64.wrap ((b : Int) + (n : Int)) = ((b + n : Nat) : Int) := by rw [wrap_int (by omega) (by omega)]; omega
    simp only [rvV]
    simp -implicitDefEqProofs (maxSteps := 3000000) only [go_sem, reduceCtorEq, e1, e2]
    (first | (refine way_dec (fun h1 => ?_) (fun h1 => ?_)) | (refine way_ndec (fun h1 => ?_) (fun h1 => ?_)) | (refine wayT_dec (fun h1 => ?_) (fun h1 => ?_)) | (refine wayF_dec (fun h1 => ?_) (fun h1 => ?_)) | (refine wayT_ndec (fun h1 => ?_) (fun h1 => ?_)) | (refine wayF_ndec (fun h1 => ?_) (fun h1 => ?_)) | (refine way_not (fun h1 => ?_) (fun h1 => ?_)) | (refine way (fun h1 => ?_) (fun h1 => ?_)) | (refine wayT (fun h1 => ?_) (fun h1 => ?_)) | (refine wayF (fun h1 => ?_) (fun h1 => ?_)))
    · simp -implicitDefEqProofs (maxSteps := 3000000) only [go_sem, reduceCtorEq, e1, e2]
      (first | (refine way_dec (fun h2 => ?_) (fun h2 => ?_)) | (refine way_ndec (fun h2 => ?_) (fun h2 => ?_)) | (refine wayT_dec (fun h2 => ?_) (fun h2 => ?_)) | (refine wayF_dec (fun h2 => ?_) (fun h2 => ?_)) | (refine wayT_ndec (fun h2 => ?_) (fun h2 => ?_)) | (refine wayF_ndec (fun h2 => ?_) (fun h2 => ?_)) | (refine way_not (fun h2 => ?_) (fun h2 => ?_)) | (refine way (fun h2 => ?_) (fun h2 => ?_)) | (refine wayT (fun h2 => ?_) (fun h2 => ?_)) | (refine wayF (fun h2 => ?_) (fun h2 => ?_)))
      · simp -implicitDefEqProofs (maxSteps := 3000000) only [go_sem, reduceCtorEq, e1, e2]
        rw [if_neg (by omega)]; rfl
      · simp -implicitDefEqProofs (maxSteps := 3000000) only [go_sem, reduceCtorEq, e1, e2]
        repeat ((first | refine req (by first | assumption | omega | exact commP_of (by kernel_rfl) | (simp only [LEN]; omega) | (simp [D.one]; omega) | (simp [D.one]; done)) ?_); simp -implicitDefEqProofs (maxSteps := 3000000) only [go_sem, reduceCtorEq, e1, e2])
        rw [if_pos (by omega)]; rfl
    · simp -implicitDefEqProofs (maxSteps := 3000000) only [go_sem, reduceCtorEq, e1, e2]
      rw [if_neg (by omega)]; rfl
theorem ks_ReadShort {h : Heap} {tb : Nat} {K : OK} {args : List V} {ls : List Nat} (t : List UInt8) (a : Int) (ht : t.length ≤ 4611686018427387904) (hg : toDs h args = some ([.str t, .int .i64 a], ls)) (hfl : FlatV (rsV (readShort t a)) ∧ FlatH ([]))
    (hk : K (renV (bk tb ([])) (rsV (readShort t a))) (updN tb ([]) ([]))) : callVC Go.Proofs.Tryz.prog h tb 180 args K :=
  call_free hg (cs_ReadShort t a ht) rfl (.inr hfl) hk

/-! sums -/
theorem u32_byte (x : UInt8) : IntKind.u32.wrap ((x.toNat : Nat) : Int) = (x.toNat : Nat) := wrap32 (by have := byte_lt x; omega)
@[go_sem] def hr224 : Hints
  | 0 => [0, 1] | 1 => [0, 1] | 2 => [0, 1, 8, 9] | 3 => [0, 1, 8, 9] | 4 => [0, 1, 5, 8, 9] | 5 => [0, 1, 8, 9] | 6 => [0, 1, 8, 9, 18] | 7 => [0, 1, 8, 9, 18] | 8 => [0, 1, 6, 8, 9, 18] | 9 => [0, 1, 6, 8, 9, 18] | 10 => [0, 1, 8, 9, 18] | 11 => [0, 1, 8, 9, 18] | 12 => [0, 1, 8, 9] | 13 => [0] | _ => []
@[go_sem] def hl224 : Hints
  | 2 => [0, 1, 8, 9] | 6 => [0, 1, 8, 9, 18] | _ => []
attribute [go_sem] Go.Proofs.Tryz.results224
set_option maxRecDepth 100000 in
set_option maxHeartbeats 4000000 in
theorem ci_SumMore (s : Nat) (t : List UInt8) (hs : s < 4294967296) (ht : t.length ≤ LEN) : CallOK Go.Proofs.Tryz.prog 224 [.d (.int .u32 s), .d (.str t)] [] [.dead, .dead] (.d (.int .u32 (sumMore s t : Nat))) [] := by
  refine call_of tysZOK mixedZ Go.Proofs.Tryz.func224 (by kernel_rfl) rfl (np := [false, false]) (by kernel_rfl) hr224 hl224 (by simp [Go.Proofs.Tryz.ntmps224]) ?_
  simp -implicitDefEqProofs (maxSteps := 3000000) only [go_sem, reduceCtorEq]
  refine loop_data (α := Nat) (fun i => ⟨[(0, .d (.int .u32 (sumMore s (t.take i) : Nat))), (1, .d (.str t)), (8, .d (.int .i64 t.length)), (9, .d (.int .i64 i))], []⟩)
    (fun i => i ≤ t.length) (fun i => t.length - i) 0 rfl (Nat.zero_le _) ?_
  rintro i h1
  simp -implicitDefEqProofs (maxSteps := 3000000) only [go_sem, reduceCtorEq]
  (first | (refine way_dec (fun h2 => ?_) (fun h2 => ?_)) | (refine way_ndec (fun h2 => ?_) (fun h2 => ?_)) | (refine wayT_dec (fun h2 => ?_) (fun h2 => ?_)) | (refine wayF_dec (fun h2 => ?_) (fun h2 => ?_)) | (refine wayT_ndec (fun h2 => ?_) (fun h2 => ?_)) | (refine wayF_ndec (fun h2 => ?_) (fun h2 => ?_)) | (refine way_not (fun h2 => ?_) (fun h2 => ?_)) | (refine way (fun h2 => ?_) (fun h2 => ?_)) | (refine wayT (fun h2 => ?_) (fun h2 => ?_)) | (refine wayF (fun h2 => ?_) (fun h2 => ?_)))
  · obtain ⟨x, hx⟩ := some_at h2
    have hl := sumMore_lt (t := t.take i) hs
    have hb := byte_lt x
    have e1 := xor32 hl (b := x.toNat) (by omega)
    have hx1 : sumMore s (t.take i) ^^^ x.toNat < 4294967296 := Nat.xor_lt_two_pow (n := 32) hl (by omega)
    simp -implicitDefEqProofs (maxSteps := 3000000) only [go_sem, reduceCtorEq, getD_some hx, u32_byte, e1]
    repeat ((first | refine req (by first | assumption | omega | exact commP_of (by kernel_rfl) | (simp only [LEN]; omega) | (simp [D.one]; omega) | (simp [D.one]; done)) ?_); simp -implicitDefEqProofs (maxSteps := 3000000) only [go_sem, reduceCtorEq, getD_some hx, u32_byte, e1])
    refine loop_data (α := Nat × Nat) (fun y => ⟨[(0, .d (.int .u32 y.2)), (1, .d (.str t)), (8, .d (.int .i64 t.length)), (9, .d (.int .i64 i)), (18, .d (.int .i64 y.1))], []⟩)
      (fun y => y.1 ≤ 8 ∧ y.2 < 4294967296 ∧ crcBits (8 - y.1) y.2 = crcByte (sumMore s (t.take i)) x.toNat) (fun y => 8 - y.1) (0, _) rfl ⟨by omega, hx1, rfl⟩ ?_
    rintro ⟨k, z⟩ ⟨g1, g2, g3⟩
    simp only at g1 g2 g3
    simp -implicitDefEqProofs (maxSteps := 3000000) only [go_sem, reduceCtorEq]
    have c1 := and32 g2 (b := 1) (by omega)
    rw [and1n] at c1
    have c2 := shr32 (a := z) (k := 1) (by omega)
    have c3 := xor32 (a := z / 2 ^ 1) (b := 3558460437) (by omega) (by omega)
    simp only [Int.cast_ofNat_Int, Int.natCast_one] at c1 c2 c3
    (first | (refine way_dec (fun h3 => ?_) (fun h3 => ?_)) | (refine way_ndec (fun h3 => ?_) (fun h3 => ?_)) | (refine wayT_dec (fun h3 => ?_) (fun h3 => ?_)) | (refine wayF_dec (fun h3 => ?_) (fun h3 => ?_)) | (refine wayT_ndec (fun h3 => ?_) (fun h3 => ?_)) | (refine wayF_ndec (fun h3 => ?_) (fun h3 => ?_)) | (refine way_not (fun h3 => ?_) (fun h3 => ?_)) | (refine way (fun h3 => ?_) (fun h3 => ?_)) | (refine wayT (fun h3 => ?_) (fun h3 => ?_)) | (refine wayF (fun h3 => ?_) (fun h3 => ?_)))
    · have hk : 8 - k = (8 - (k + 1)) + 1 := by omega
      rw [hk, crcBits] at g3
      simp -implicitDefEqProofs (maxSteps := 3000000) only [go_sem, reduceCtorEq, c1, c2, c3]
      repeat ((first | refine req (by first | assumption | omega | exact commP_of (by kernel_rfl) | (simp only [LEN]; omega) | (simp [D.one]; omega) | (simp [D.one]; done)) ?_); simp -implicitDefEqProofs (maxSteps := 3000000) only [go_sem, reduceCtorEq, c1, c2, c3])
      have hz := crcBit_lt g2
      (first | (refine way_dec (fun h4 => ?_) (fun h4 => ?_)) | (refine way_ndec (fun h4 => ?_) (fun h4 => ?_)) | (refine wayT_dec (fun h4 => ?_) (fun h4 => ?_)) | (refine wayF_dec (fun h4 => ?_) (fun h4 => ?_)) | (refine wayT_ndec (fun h4 => ?_) (fun h4 => ?_)) | (refine wayF_ndec (fun h4 => ?_) (fun h4 => ?_)) | (refine way_not (fun h4 => ?_) (fun h4 => ?_)) | (refine way (fun h4 => ?_) (fun h4 => ?_)) | (refine wayT (fun h4 => ?_) (fun h4 => ?_)) | (refine wayF (fun h4 => ?_) (fun h4 => ?_)))
      · simp -implicitDefEqProofs (maxSteps := 3000000) only [go_sem, reduceCtorEq, c3]
        rw [wrap_succ (by simp only [LEN]; omega)]
        refine next_data (k + 1, crcBit z) ?_ ⟨by simp only; omega, hz, g3⟩ (by simp only; omega)
        rw [crcBit, if_pos (by omega)]
      · simp -implicitDefEqProofs (maxSteps := 3000000) only [go_sem, reduceCtorEq]
        rw [wrap_succ (by simp only [LEN]; omega)]
        refine next_data (k + 1, crcBit z) ?_ ⟨by simp only; omega, hz, g3⟩ (by simp only; omega)
        rw [crcBit, if_neg (by omega)]
    · simp -implicitDefEqProofs (maxSteps := 3000000) only [go_sem, reduceCtorEq]
      obtain rfl : k = 8 := by omega
      rw [wrap_succ (by omega)]
      refine next_data (i + 1) ?_ (by omega) (by omega)
      rw [sumMore_snoc hx, ← g3]
      rfl
  · simp -implicitDefEqProofs (maxSteps := 3000000) only [go_sem, reduceCtorEq]
    rw [List.take_of_length_le (by omega)]
theorem ki_SumMore {h : Heap} {tb : Nat} {K : OK} {args : List V} {ls : List Nat} (s : Nat) (t : List UInt8) (hs : s < 4294967296) (ht : t.length ≤ LEN) (hg : toDs h args = some ([.int .u32 s, .str t], ls))
    (hk : K (renV (bk tb ([])) (.d (.int .u32 (sumMore s t : Nat)))) (updN tb ([]) ([]))) : callVC Go.Proofs.Tryz.prog h tb 224 args K :=
  call_free hg (ci_SumMore s t hs ht) rfl (.inr ⟨flat_of rfl, flatHB_of rfl⟩) hk
@[go_sem] def hr201 : Hints
  | 0 => [0, 1] | 1 => [0, 1] | 2 => [0, 1, 5] | 3 => [0, 1, 5] | 4 => [0, 1, 5] | 5 => [0, 1, 5] | 6 => [0, 1, 5, 6] | 7 => [0, 1, 5, 6] | 8 => [0, 1, 5, 6] | 9 => [0, 1, 5, 6, 7] | 10 => [0, 1, 5, 6, 7] | 11 => [0, 1, 5, 6] | 12 => [0] | _ => []
@[go_sem] def hl201 : Hints
  | 2 => [0, 1, 5] | 6 => [0, 1, 5, 6] | _ => []
attribute [go_sem] Go.Proofs.Tryz.results201
set_option maxRecDepth 100000 in
set_option maxHeartbeats 4000000 in
theorem cs_SumMore (s : Nat) (t : List UInt8) (hs : s < 4294967296) (ht : t.length ≤ LEN) : CallOK Go.Proofs.Tryz.prog 201 [.d (.int .u32 s), .d (.str t)] [] [.dead, .dead] (.d (.int .u32 (sumMore s t : Nat))) [] := by
  refine call_of tysZOK mixedZ Go.Proofs.Tryz.func201 (by kernel_rfl) rfl (np := [false, false]) (by kernel_rfl) hr201 hl201 (by simp [Go.Proofs.Tryz.ntmps201]) ?_
  simp -implicitDefEqProofs (maxSteps := 3000000) only [go_sem, reduceCtorEq]
  refine loop_data (α := Nat) (fun i => ⟨[(0, .d (.int .u32 (sumMore s (t.take i) : Nat))), (1, .d (.str t)), (5, .d (.int .i64 i))], []⟩)
    (fun i => i ≤ t.length) (fun i => t.length - i) 0 rfl (Nat.zero_le _) ?_
  rintro i h1
  simp -implicitDefEqProofs (maxSteps := 3000000) only [go_sem, reduceCtorEq]
  (first | (refine way_dec (fun h2 => ?_) (fun h2 => ?_)) | (refine way_ndec (fun h2 => ?_) (fun h2 => ?_)) | (refine wayT_dec (fun h2 => ?_) (fun h2 => ?_)) | (refine wayF_dec (fun h2 => ?_) (fun h2 => ?_)) | (refine wayT_ndec (fun h2 => ?_) (fun h2 => ?_)) | (refine wayF_ndec (fun h2 => ?_) (fun h2 => ?_)) | (refine way_not (fun h2 => ?_) (fun h2 => ?_)) | (refine way (fun h2 => ?_) (fun h2 => ?_)) | (refine wayT (fun h2 => ?_) (fun h2 => ?_)) | (refine wayF (fun h2 => ?_) (fun h2 => ?_)))
  · obtain ⟨x, hx⟩ := some_at h2
    have hl := sumMore_lt (t := t.take i) hs
    have hb := byte_lt x
    have e1 := xor32 hl (b := x.toNat) (by omega)
    have hx1 : sumMore s (t.take i) ^^^ x.toNat < 4294967296 := Nat.xor_lt_two_pow (n := 32) hl (by omega)
    simp -implicitDefEqProofs (maxSteps := 3000000) only [go_sem, reduceCtorEq, getD_some hx, u32_byte, e1]
    repeat ((first | refine req (by first | assumption | omega | exact commP_of (by kernel_rfl) | (simp only [LEN]; omega) | (simp [D.one]; omega) | (simp [D.one]; done)) ?_); simp -implicitDefEqProofs (maxSteps := 3000000) only [go_sem, reduceCtorEq, getD_some hx, u32_byte, e1])
    refine loop_data (α := Nat × Nat) (fun y => ⟨[(0, .d (.int .u32 y.2)), (1, .d (.str t)), (5, .d (.int .i64 i)), (6, .d (.int .i64 y.1))], []⟩)
      (fun y => y.1 ≤ 8 ∧ y.2 < 4294967296 ∧ crcBits (8 - y.1) y.2 = crcByte (sumMore s (t.take i)) x.toNat) (fun y => 8 - y.1) (0, _) rfl ⟨by omega, hx1, rfl⟩ ?_
    rintro ⟨k, z⟩ ⟨g1, g2, g3⟩
    simp only at g1 g2 g3
    simp -implicitDefEqProofs (maxSteps := 3000000) only [go_sem, reduceCtorEq]
    have c1 : (z : Int).tmod 2 = ((z % 2 : Nat) : Int) := by rw [Int.tmod_eq_emod_of_nonneg (by omega)]; omega
    have c2 : IntKind.u32.wrap ((z : Int).tdiv 2) = ((z / 2 : Nat) : Int) := by
      have : (z : Int).tdiv 2 = ((z / 2 : Nat) : Int) := by rw [Int.tdiv_eq_ediv_of_nonneg (by omega)]; omega
      rw [this]; exact wrap32 (by omega)
    have c3 := xor32 (a := z / 2) (b := 3558460437) (by omega) (by omega)
    simp only [Int.cast_ofNat_Int, Int.natCast_one] at c3
    (first | (refine way_dec (fun h3 => ?_) (fun h3 => ?_)) | (refine way_ndec (fun h3 => ?_) (fun h3 => ?_)) | (refine wayT_dec (fun h3 => ?_) (fun h3 => ?_)) | (refine wayF_dec (fun h3 => ?_) (fun h3 => ?_)) | (refine wayT_ndec (fun h3 => ?_) (fun h3 => ?_)) | (refine wayF_ndec (fun h3 => ?_) (fun h3 => ?_)) | (refine way_not (fun h3 => ?_) (fun h3 => ?_)) | (refine way (fun h3 => ?_) (fun h3 => ?_)) | (refine wayT (fun h3 => ?_) (fun h3 => ?_)) | (refine wayF (fun h3 => ?_) (fun h3 => ?_)))
    · have hk : 8 - k = (8 - (k + 1)) + 1 := by omega
      rw [hk, crcBits] at g3
      simp -implicitDefEqProofs (maxSteps := 3000000) only [go_sem, reduceCtorEq, c1, c2, c3]
      repeat ((first | refine req (by first | assumption | omega | exact commP_of (by kernel_rfl) | (simp only [LEN]; omega) | (simp [D.one]; omega) | (simp [D.one]; done)) ?_); simp -implicitDefEqProofs (maxSteps := 3000000) only [go_sem, reduceCtorEq, c1, c2, c3])
      have hz := crcBit_lt g2
      (first | (refine way_dec (fun h4 => ?_) (fun h4 => ?_)) | (refine way_ndec (fun h4 => ?_) (fun h4 => ?_)) | (refine wayT_dec (fun h4 => ?_) (fun h4 => ?_)) | (refine wayF_dec (fun h4 => ?_) (fun h4 => ?_)) | (refine wayT_ndec (fun h4 => ?_) (fun h4 => ?_)) | (refine wayF_ndec (fun h4 => ?_) (fun h4 => ?_)) | (refine way_not (fun h4 => ?_) (fun h4 => ?_)) | (refine way (fun h4 => ?_) (fun h4 => ?_)) | (refine wayT (fun h4 => ?_) (fun h4 => ?_)) | (refine wayF (fun h4 => ?_) (fun h4 => ?_)))
      · simp -implicitDefEqProofs (maxSteps := 3000000) only [go_sem, reduceCtorEq, c3]
        rw [wrap_succ (by simp only [LEN]; omega)]
        refine next_data (k + 1, crcBit z) ?_ ⟨by simp only; omega, hz, g3⟩ (by simp only; omega)
        rw [crcBit, if_pos (by omega)]
      · simp -implicitDefEqProofs (maxSteps := 3000000) only [go_sem, reduceCtorEq]
        rw [wrap_succ (by simp only [LEN]; omega)]
        refine next_data (k + 1, crcBit z) ?_ ⟨by simp only; omega, hz, g3⟩ (by simp only; omega)
        rw [crcBit, if_neg (by omega)]
    · simp -implicitDefEqProofs (maxSteps := 3000000) only [go_sem, reduceCtorEq]
      obtain rfl : k = 8 := by omega
      rw [wrap_succ (by omega)]
      refine next_data (i + 1) ?_ (by omega) (by omega)
      rw [sumMore_snoc hx, ← g3]
      rfl
  · simp -implicitDefEqProofs (maxSteps := 3000000) only [go_sem, reduceCtorEq]
    rw [List.take_of_length_le (by omega)]
theorem ks_SumMore {h : Heap} {tb : Nat} {K : OK} {args : List V} {ls : List Nat} (s : Nat) (t : List UInt8) (hs : s < 4294967296) (ht : t.length ≤ LEN) (hg : toDs h args = some ([.int .u32 s, .str t], ls))
    (hk : K (renV (bk tb ([])) (.d (.int .u32 (sumMore s t : Nat)))) (updN tb ([]) ([]))) : callVC Go.Proofs.Tryz.prog h tb 201 args K :=
  call_free hg (cs_SumMore s t hs ht) rfl (.inr ⟨flat_of rfl, flatHB_of rfl⟩) hk
@[go_sem] def hr197 : Hints
  | 0 => [0] | 1 => [0] | _ => []
@[go_sem] def hl197 : Hints := fun _ => []
attribute [go_sem] Go.Proofs.Tryz.results197
set_option maxRecDepth 100000 in
set_option maxHeartbeats 4000000 in
theorem ci_SumOf (t : List UInt8) (ht : t.length ≤ LEN) : CallOK Go.Proofs.Tryz.prog 197 [.d (.str t)] [] [.dead] (.d (.int .u32 (sumOf t : Nat))) [] := by
  refine call_of tysZOK mixedZ Go.Proofs.Tryz.func197 (by kernel_rfl) rfl (np := [false]) (by kernel_rfl) hr197 hl197 (by simp [Go.Proofs.Tryz.ntmps197]) ?_
  simp -implicitDefEqProofs (maxSteps := 3000000) only [go_sem, reduceCtorEq]
  refine ki_SumMore 4294967295 t (by omega) ht rfl ?_
  simp -implicitDefEqProofs (maxSteps := 3000000) only [go_sem, reduceCtorEq]
  rfl
theorem ki_SumOf {h : Heap} {tb : Nat} {K : OK} {args : List V} {ls : List Nat} (t : List UInt8) (ht : t.length ≤ LEN) (hg : toDs h args = some ([.str t], ls))
    (hk : K (renV (bk tb ([])) (.d (.int .u32 (sumOf t : Nat)))) (updN tb ([]) ([]))) : callVC Go.Proofs.Tryz.prog h tb 197 args K :=
  call_free hg (ci_SumOf t ht) rfl (.inr ⟨flat_of rfl, flatHB_of rfl⟩) hk
@[go_sem] def hr178 : Hints
  | 0 => [0] | 1 => [0] | _ => []
@[go_sem] def hl178 : Hints := fun _ => []
attribute [go_sem] Go.Proofs.Tryz.results178
set_option maxRecDepth 100000 in
set_option maxHeartbeats 4000000 in
theorem cs_SumOf (t : List UInt8) (ht : t.length ≤ LEN) : CallOK Go.Proofs.Tryz.prog 178 [.d (.str t)] [] [.dead] (.d (.int .u32 (sumOf t : Nat))) [] := by
  refine call_of tysZOK mixedZ Go.Proofs.Tryz.func178 (by kernel_rfl) rfl (np := [false]) (by kernel_rfl) hr178 hl178 (by simp [Go.Proofs.Tryz.ntmps178]) ?_
  simp -implicitDefEqProofs (maxSteps := 3000000) only [go_sem, reduceCtorEq]
  refine ks_SumMore 4294967295 t (by omega) ht rfl ?_
  simp -implicitDefEqProofs (maxSteps := 3000000) only [go_sem, reduceCtorEq]
  rfl
theorem ks_SumOf {h : Heap} {tb : Nat} {K : OK} {args : List V} {ls : List Nat} (t : List UInt8) (ht : t.length ≤ LEN) (hg : toDs h args = some ([.str t], ls))
    (hk : K (renV (bk tb ([])) (.d (.int .u32 (sumOf t : Nat)))) (updN tb ([]) ([]))) : callVC Go.Proofs.Tryz.prog h tb 178 args K :=
  call_free hg (cs_SumOf t ht) rfl (.inr ⟨flat_of rfl, flatHB_of rfl⟩) hk
theorem four_cells {n : Nat} (h : n < 4294967296) : IntKind.u8.wrap (bShr .u32 (n : Int) 24) = ((UInt8.ofNat (n / 16777216)).toNat : Nat) ∧ IntKind.u8.wrap (bShr .u32 (n : Int) 16) = ((UInt8.ofNat (n / 65536)).toNat : Nat) ∧
    IntKind.u8.wrap (bShr .u32 (n : Int) 8) = ((UInt8.ofNat (n / 256)).toNat : Nat) ∧ IntKind.u8.wrap (n : Int) = ((UInt8.ofNat n).toNat : Nat) := by
  have e1 := shr32 (a := n) (k := 24) (by omega)
  have e2 := shr32 (a := n) (k := 16) (by omega)
  have e3 := shr32 (a := n) (k := 8) (by omega)
  simp only [Int.cast_ofNat_Int] at e1 e2 e3
  rw [e1, e2, e3]
  refine ⟨?_, ?_, ?_, ?_⟩ <;> rw [wrap8] <;> simp
theorem four_lit {n : Nat} : [[D.int .u8 ((UInt8.ofNat (n / 16777216)).toNat : Nat)], [D.int .u8 ((UInt8.ofNat (n / 65536)).toNat : Nat)], [D.int .u8 ((UInt8.ofNat (n / 256)).toNat : Nat)], [D.int .u8 ((UInt8.ofNat n).toNat : Nat)]] = bys (four n) := rfl
theorem four_all {n : Nat} : (bys (four n)).take 4 = bys (four n) := rfl
@[go_sem] def hr166 : Hints
  | 0 => [0] | 1 => [0] | 2 => [3] | _ => []
@[go_sem] def hl166 : Hints := fun _ => []
attribute [go_sem] Go.Proofs.Tryz.results166
set_option maxRecDepth 100000 in
set_option maxHeartbeats 4000000 in
theorem ci_seal (t : List UInt8) (ht : t.length ≤ LEN) : CallOK Go.Proofs.Tryz.prog 166 [.d (.str t)] [] [.dead] (.d (.str (four (sumOf t)))) [] := by
  refine call_of tysZOK mixedZ Go.Proofs.Tryz.func166 (by kernel_rfl) rfl (np := [false]) (by kernel_rfl) hr166 hl166 (by simp [Go.Proofs.Tryz.ntmps166]) ?_
  simp -implicitDefEqProofs (maxSteps := 3000000) only [go_sem, reduceCtorEq]
  refine ki_SumOf t ht rfl ?_
  obtain ⟨e1, e2, e3, e4⟩ := four_cells (sumOf_lt (t := t))
  simp -implicitDefEqProofs (maxSteps := 3000000) only [go_sem, reduceCtorEq, e1, e2, e3, e4]
  repeat ((first | refine req (by first | assumption | omega | exact commP_of (by kernel_rfl) | (simp only [LEN]; omega) | (simp [D.one]; omega) | (simp [D.one]; done)) ?_); simp -implicitDefEqProofs (maxSteps := 3000000) only [go_sem, reduceCtorEq, e1, e2, e3, e4, four_lit, four_len, four_all, bys_back, bys_str])
theorem ki_seal {h : Heap} {tb : Nat} {K : OK} {args : List V} {ls : List Nat} (t : List UInt8) (ht : t.length ≤ LEN) (hg : toDs h args = some ([.str t], ls))
    (hk : K (renV (bk tb ([])) (.d (.str (four (sumOf t))))) (updN tb ([]) ([]))) : callVC Go.Proofs.Tryz.prog h tb 166 args K :=
  call_free hg (ci_seal t ht) rfl (.inr ⟨flat_of rfl, flatHB_of rfl⟩) hk
@[go_sem] def hr177 : Hints
  | 0 => [0] | 1 => [0] | _ => []
@[go_sem] def hl177 : Hints := fun _ => []
attribute [go_sem] Go.Proofs.Tryz.results177
set_option maxRecDepth 100000 in
set_option maxHeartbeats 4000000 in
theorem cs_Four (n : Nat) (hn : n < 4294967296) : CallOK Go.Proofs.Tryz.prog 177 [.d (.int .u32 n)] [] [.dead] (.d (.str (four n))) [] := by
  refine call_of tysZOK mixedZ Go.Proofs.Tryz.func177 (by kernel_rfl) rfl (np := [false]) (by kernel_rfl) hr177 hl177 (by simp [Go.Proofs.Tryz.ntmps177]) ?_
  obtain ⟨e1, e2, e3, e4⟩ := four_cells hn
  simp -implicitDefEqProofs (maxSteps := 3000000) only [go_sem, reduceCtorEq, e1, e2, e3, e4]
  repeat ((first | refine req (by first | assumption | omega | exact commP_of (by kernel_rfl) | (simp only [LEN]; omega) | (simp [D.one]; omega) | (simp [D.one]; done)) ?_); simp -implicitDefEqProofs (maxSteps := 3000000) only [go_sem, reduceCtorEq, e1, e2, e3, e4, four_lit, four_len, four_all, bys_back, bys_str])
theorem ks_Four {h : Heap} {tb : Nat} {K : OK} {args : List V} {ls : List Nat} (n : Nat) (hn : n < 4294967296) (hg : toDs h args = some ([.int .u32 n], ls))
    (hk : K (renV (bk tb ([])) (.d (.str (four n)))) (updN tb ([]) ([]))) : callVC Go.Proofs.Tryz.prog h tb 177 args K :=
  call_free hg (cs_Four n hn) rfl (.inr ⟨flat_of rfl, flatHB_of rfl⟩) hk

def unV : Option (List UInt8) → V
  | none => .tup [.d (.str []), .d (.bool false)]
  | some s => .tup [.d (.str s), .d (.bool true)]
theorem flat_unV {o : Option (List UInt8)} : FlatV (unV o) := by rcases o with _ | s <;> exact flat_of rfl
@[go_sem] def hr136 : Hints
  | 0 => [0] | 1 => [0] | 2 => [0, 4] | 3 => [] | 4 => [0, 4] | _ => []
@[go_sem] def hl136 : Hints := fun _ => []
attribute [go_sem] Go.Proofs.Tryz.results136
set_option maxRecDepth 100000 in
set_option maxHeartbeats 4000000 in
theorem ci_Unsealed (t : List UInt8) (ht : t.length ≤ 4611686018427387904) : CallOK Go.Proofs.Tryz.prog 136 [.d (.str t)] [] [.dead] (unV (unsealB t)) [] := by
  refine call_of tysZOK mixedZ Go.Proofs.Tryz.func136 (by kernel_rfl) rfl (np := [false]) (by kernel_rfl) hr136 hl136 (by simp [Go.Proofs.Tryz.ntmps136]) ?_
  simp -implicitDefEqProofs (maxSteps := 3000000) only [go_sem, reduceCtorEq]
  have e1 : IntKind.i64.wrap ((t.length : Int) - 4) = (t.length : Int) - 4 := wrap_int (by omega) (by omega)
  rw [e1]
  by_cases h1 : 0 ≤ (t.length : Int) - 4 ∧ (t.length : Int) - 4 ≤ 20000
  · have d1 : decide (0 ≤ (t.length : Int) - 4 ∧ (t.length : Int) - 4 ≤ 20000) = true := decide_eq_true h1
    have e2 : ((t.length : Int) - 4).toNat = t.length - 4 := by omega
    refine ki_in _ _ _ rfl ?_
    simp -implicitDefEqProofs (maxSteps := 3000000) only [go_sem, reduceCtorEq, d1, e2]
    repeat ((first | refine req (by first | assumption | omega | exact commP_of (by kernel_rfl) | (simp only [LEN]; omega) | (simp [D.one]; omega) | (simp [D.one]; done)) ?_ | refine ki_seal _ (by simp only [List.length_take, LEN]; omega) rfl ?_); simp -implicitDefEqProofs (maxSteps := 3000000) only [go_sem, reduceCtorEq, d1, e2, List.take_length])
    (first | (refine way_dec (fun h2 => ?_) (fun h2 => ?_)) | (refine way_ndec (fun h2 => ?_) (fun h2 => ?_)) | (refine wayT_dec (fun h2 => ?_) (fun h2 => ?_)) | (refine wayF_dec (fun h2 => ?_) (fun h2 => ?_)) | (refine wayT_ndec (fun h2 => ?_) (fun h2 => ?_)) | (refine wayF_ndec (fun h2 => ?_) (fun h2 => ?_)) | (refine way_not (fun h2 => ?_) (fun h2 => ?_)) | (refine way (fun h2 => ?_) (fun h2 => ?_)) | (refine wayT (fun h2 => ?_) (fun h2 => ?_)) | (refine wayF (fun h2 => ?_) (fun h2 => ?_)))
    · simp -implicitDefEqProofs (maxSteps := 3000000) only [go_sem, reduceCtorEq]
      rw [unsealB, if_neg (fun h => h2 h.2.2)]; rfl
    · simp -implicitDefEqProofs (maxSteps := 3000000) only [go_sem, reduceCtorEq]
      repeat ((first | refine req (by first | assumption | omega | exact commP_of (by kernel_rfl) | (simp only [LEN]; omega) | (simp [D.one]; omega) | (simp [D.one]; done)) ?_); simp -implicitDefEqProofs (maxSteps := 3000000) only [go_sem, reduceCtorEq, e2])
      rw [unsealB, if_pos ⟨by omega, by omega, h2⟩]; rfl
  · have d1 : decide (0 ≤ (t.length : Int) - 4 ∧ (t.length : Int) - 4 ≤ 20000) = false := decide_eq_false h1
    refine ki_in _ _ _ rfl ?_
    simp -implicitDefEqProofs (maxSteps := 3000000) only [go_sem, reduceCtorEq, d1]
    repeat ((first | refine req (by first | assumption | omega | exact commP_of (by kernel_rfl) | (simp only [LEN]; omega) | (simp [D.one]; omega) | (simp [D.one]; done)) ?_); simp -implicitDefEqProofs (maxSteps := 3000000) only [go_sem, reduceCtorEq, d1])
    rw [unsealB, if_neg (by omega)]; rfl
theorem ki_Unsealed {h : Heap} {tb : Nat} {K : OK} {args : List V} {ls : List Nat} (t : List UInt8) (ht : t.length ≤ 4611686018427387904) (hg : toDs h args = some ([.str t], ls)) (hfl : FlatV (unV (unsealB t)) ∧ FlatH ([]))
    (hk : K (renV (bk tb ([])) (unV (unsealB t))) (updN tb ([]) ([]))) : callVC Go.Proofs.Tryz.prog h tb 136 args K :=
  call_free hg (ci_Unsealed t ht) rfl (.inr hfl) hk

end Go.Rx
