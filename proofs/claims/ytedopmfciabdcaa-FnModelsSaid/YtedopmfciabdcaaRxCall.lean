/-
  A call that is handed data is worked out by the called function's contract; condition: that contract.
-/
import Derived.Test.YtedopmfciabdcaaRxSem
namespace Go.Rx
open Go Go.RowKit

/-! ### calls that are handed data alone -/

def toDs (h : Heap) : List V → Option (List D × List Nat)
  | [] => some ([], [])
  | v :: vs => match toD h v, toDs h vs with
    | some (x, l), some (xs, ls) => some (x :: xs, l ++ ls)
    | _, _ => none

theorem gather_of_toDs {h : Heap} : ∀ {vs : List V} {xs : List D} {ls : List Nat}, toDs h vs = some (xs, ls) → gather h [] vs = some (xs.map Arg.dat, [], ls)
  | [], xs, ls, e => by simp [toDs] at e; obtain ⟨rfl, rfl⟩ := e; rfl
  | v :: vs, xs, ls, e => by
    simp only [toDs] at e
    split at e
    · rename_i x l xs' ls' h1 h2
      simp at e; obtain ⟨rfl, rfl⟩ := e
      have ih := gather_of_toDs h2
      have hd : gatherD h v (xs'.map Arg.dat) [] ls' = some (.dat x :: xs'.map Arg.dat, [], l ++ ls') := by unfold gatherD; rw [h1]
      simp only [gather, List.drop_nil, ih, List.headD_nil, List.map_cons]
      cases v with
      | ref n off => simp [toD, cD] at h1
      | _ => exact hd
    · cases e

theorem names_dat : ∀ xs : List D, (xs.map Arg.dat).filterMap Arg.name? = []
  | [] => rfl
  | x :: xs => by simp only [List.map_cons, List.filterMap_cons, Arg.name?]; exact names_dat xs

theorem ownFit_dat {h : Heap} {H' : List (Nat × AObj)} : ∀ xs : List D, ownFit h H' (xs.map Arg.dat) (xs.map fun _ => V.dead)
  | [] => trivial
  | x :: xs => ownFit_dat xs

theorem outsFit_dat {H' : List (Nat × AObj)} : ∀ xs : List D, outsFit H' (xs.map Arg.dat) (xs.map fun _ => V.dead) = true
  | [] => rfl
  | x :: xs => by simp only [List.map_cons, outsFit]; exact outsFit_dat xs

theorem backTo_dat : ∀ (xs : List D) (j : Nat), backTo (xs.map Arg.dat) (xs.map fun _ => V.dead) j = none
  | [], j => rfl
  | x :: xs, j => by simp only [List.map_cons, backTo]; exact backTo_dat xs j

/-- Names of a result, in the caller. -/
def bk (tb : Nat) (H' : List (Nat × AObj)) (j : Nat) : Option Nat := bif hasKey H' j then some (tb + j) else none

theorem back_dat {tb : Nat} {H' : List (Nat × AObj)} (xs : List D) : back tb (xs.map Arg.dat) (xs.map fun _ => V.dead) H' = bk tb H' := by
  funext j; unfold back bk; rw [backTo_dat]; cases hasKey H' j <;> rfl

def updN (tb : Nat) (H0 : List (Nat × AObj)) : List (Nat × AObj) → Upd
  | [] => []
  | p :: l => ((bk tb H0 p.1).getD 0, some (renO (bk tb H0) p.2)) :: updN tb H0 l

theorem updN_eq {tb : Nat} {H0 : List (Nat × AObj)} : ∀ H : List (Nat × AObj), H.map (fun p => ((bk tb H0 p.1).getD 0, some (renO (bk tb H0) p.2))) = updN tb H0 H
  | [] => rfl
  | p :: l => by simp only [List.map_cons, updN, updN_eq l]

theorem flatO_one {n : Nat} {o : AObj} (h : FlatO o) : FlatH [(n, o)] := fun p hp => by simp at hp; subst hp; exact h

section
variable {P : Program} {h : Heap} {tb : Nat} {f : FuncId} {args : List V} {K : OK} {xs : List D} {ls : List Nat} {res : V} {H' : List (Nat × AObj)}

/-- A call that is handed data, none of it ours alone; or whose answer does not point into it. -/
theorem call_free (hg : toDs h args = some (xs, ls)) (hc : CallOK P f (xs.map .d) [] (xs.map fun _ => .dead) res H') (hs : smallKeys H' = true)
    (hf : ls = [] ∨ (FlatV res ∧ FlatH H')) (hk : K (renV (bk tb H') res) (updN tb H' H')) : callVC P h tb f args K := by
  refine ⟨[], xs.map .dat, [], ls, xs.map fun _ => .dead, res, H', gather_of_toDs hg, by rw [names_dat]; simp [nodup], ?_, ?_, ownFit_dat xs, .inl ⟨hf, ?_⟩⟩
  · simpa [argV, objs, List.map_map, Function.comp_def] using hc
  · rw [outsFit_dat, hs]; rfl
  · rw [back_dat, updOf, back_dat, updN_eq]; simpa using hk

/-- A call whose answer may point into what it was handed: what was ours is spent. -/
theorem call_take (hg : toDs h args = some (xs, ls)) (hc : CallOK P f (xs.map .d) [] (xs.map fun _ => .dead) res H') (hs : smallKeys H' = true)
    (hk : K (renV (bk tb H') res) (ls.map (·, none) ++ updN tb H' H')) : callVC P h tb f args K := by
  refine ⟨[], xs.map .dat, [], ls, xs.map fun _ => .dead, res, H', gather_of_toDs hg, by rw [names_dat]; simp [nodup], ?_, ?_, ownFit_dat xs, .inr ?_⟩
  · simpa [argV, objs, List.map_map, Function.comp_def] using hc
  · rw [outsFit_dat, hs]; rfl
  · rw [back_dat, updOf, back_dat, updN_eq]; simpa using hk

/-- Where the first thing that is handed on is a box of ours, which owns nothing. -/
def bx (n tb : Nat) (H' : List (Nat × AObj)) (j : Nat) : Option Nat := bif 0 == j then some n else bk tb H' j
def updX (n tb : Nat) (H0 : List (Nat × AObj)) : List (Nat × AObj) → Upd
  | [] => []
  | p :: l => ((bx n tb H0 p.1).getD 0, some (renO (bx n tb H0) p.2)) :: updX n tb H0 l
theorem updX_eq {n tb : Nat} {H0 : List (Nat × AObj)} : ∀ H : List (Nat × AObj), H.map (fun p => ((bx n tb H0 p.1).getD 0, some (renO (bx n tb H0) p.2))) = updX n tb H0 H
  | [] => rfl
  | p :: l => by simp only [List.map_cons, updX, updX_eq l]

theorem call_box_ (gone : Bool) {n : Nat} {cells : List V} {rest : List V} (hn : h n = some (.box cells)) (hro : refO h n = [n]) (hro2 : renO (idx [n]) (.box cells) = .box cells) (hr : toDs h rest = some (xs, ls)) (hnl : ls.contains n = false)
    (hc : CallOK P f (.ref 0 0 :: xs.map .d) [(0, .box cells)] (.ref 0 0 :: xs.map fun _ => .dead) res H') (hb : isBox (hget H' 0) = true) (hs : smallKeys H' = true)
    (hf : gone = true ∨ ls = [] ∨ (FlatV res ∧ FlatH H')) (hk : K (renV (bx n tb H') res) ((bif gone then ls.map (·, none) else []) ++ (n, none) :: updX n tb H' H')) : callVC P h tb f (.ref n 0 :: rest) K := by
  have hidx : idx [n] n = some 0 := by simp [idx]
  have hbk : back tb (.box n :: xs.map Arg.dat) (.ref 0 0 :: xs.map fun _ => V.dead) H' = bx n tb H' := by
    funext j
    unfold back bx
    simp only [backTo]
    cases h0 : (0 : Nat) == j with
    | true => cases hasKey H' j <;> rfl
    | false => simp only [cond_false]; rw [backTo_dat]; unfold bk; cases hasKey H' j <;> rfl
  have hu : ∀ l, updOf tb (.box n :: xs.map Arg.dat) (.ref 0 0 :: xs.map fun _ => V.dead) l H' = l.map (·, none) ++ updX n tb H' H' := fun l => by rw [updOf, hbk, updX_eq]
  have hgat : gather h [] (.ref n 0 :: rest) = some (.box n :: xs.map .dat, [n], ls) := by
    simp only [gather, List.drop_nil, gather_of_toDs hr, List.headD_nil, gather1, hn, hro]
    rfl
  have hcall : CallOK P f ((Arg.box n :: xs.map .dat).map (argV [n])) (objs h (idx [n]) 0 [n]) (.ref 0 0 :: xs.map fun _ => .dead) res H' := by
    have e1 : (xs.map Arg.dat).map (argV [n]) = xs.map .d := by rw [List.map_map]; rfl
    simp only [List.map_cons, e1, argV, renC, hidx, objs, hn, hro2]
    exact hc
  refine ⟨[], _, _, _, .ref 0 0 :: xs.map fun _ => .dead, res, H', hgat, ?_, hcall, ?_, ownFit_dat xs, ?_⟩
  · simp only [List.filterMap_cons, Arg.name?, names_dat, nodup, List.all_cons, List.all_nil, hnl]
    simp
  · simp only [outsFit, outsFit_dat, hs, hb]; rfl
  · cases gone with
    | true => exact .inr (by rw [hbk, hu]; simpa using hk)
    | false =>
      refine .inl ⟨hf.resolve_left (by simp), ?_⟩
      rw [hbk, hu]; simpa using hk

/-- Where the first thing that is handed on is nil. -/
theorem call_nils {rest : List V} (hr : toDs h rest = some (xs, ls)) (hc : CallOK P f (.nils :: xs.map .d) [] (.dead :: xs.map fun _ => .dead) res H') (hs : smallKeys H' = true)
    (hf : ls = [] ∨ (FlatV res ∧ FlatH H')) (hk : K (renV (bk tb H') res) (updN tb H' H')) : callVC P h tb f (.nils :: rest) K := by
  have hb : back tb (.nils :: xs.map Arg.dat) (.dead :: xs.map fun _ => V.dead) H' = bk tb H' := by
    funext j; unfold back bk; simp only [backTo]; rw [backTo_dat]; cases hasKey H' j <;> rfl
  refine ⟨[true], .nils :: xs.map .dat, [], ls, .dead :: xs.map fun _ => .dead, res, H', ?_, ?_, ?_, ?_, ownFit_dat xs, .inl ⟨hf, ?_⟩⟩
  · simp only [gather, List.drop_succ_cons, List.drop_nil, gather_of_toDs hr, List.headD_cons, gather1]
  · simp only [List.filterMap_cons, Arg.name?, names_dat]; simp [nodup]
  · have e1 : (xs.map Arg.dat).map (argV []) = xs.map .d := by rw [List.map_map]; rfl
    simp only [List.map_cons, e1, argV, objs]
    exact hc
  · simp only [outsFit, outsFit_dat, hs]; rfl
  · rw [updOf, hb, updN_eq]; simpa using hk

/-- Where the first thing that is handed on is an array of ours. -/
theorem back_own {n off len k off' len' : Nat} (xs : List D) : backTo (.own n off len :: xs.map Arg.dat) (.own k off' len' :: xs.map fun _ => V.dead) = fun j => bif k == j then some n else none := by
  funext j; simp only [backTo]; rw [backTo_dat]

theorem gather_own {n off len m : Nat} {ys : List (List D)} {rest : List V} (hn : h n = some (.arr m ys)) (hr : toDs h rest = some (xs, ls)) :
    gather h [true] (.own n off len :: rest) = some (.own n off len :: xs.map .dat, [n], ls) := by
  simp only [gather, List.drop_succ_cons, List.drop_nil, gather_of_toDs hr, List.headD_cons, gather1, hn]

theorem call_own {n off len m : Nat} {ys ys' : List (List D)} {rest : List V} {r : V} (hn : h n = some (.arr m ys)) (hr : toDs h rest = some (xs, ls)) (hnl : ls.contains n = false)
    (hc : CallOK P f (.own 0 off len :: xs.map .d) [(0, .arr m ys)] (.own 0 off len :: xs.map fun _ => .dead) r [(0, .arr m ys')]) (hl : ys.length = ys'.length) (hfl : FlatV r) (hfo : FlatO (.arr m ys'))
    (hk : K (renV (fun j => bif 0 == j then some n else none) r) [(n, none), (n, some (.arr m ys'))]) : callVC P h tb f (.own n off len :: rest) K := by
  have hidx : idx [n] n = some 0 := by simp [idx]
  have hb : back tb (.own n off len :: xs.map Arg.dat) (.own 0 off len :: xs.map fun _ => V.dead) [(0, .arr m ys')] = fun j => bif 0 == j then some n else none := by
    funext j
    unfold back
    rw [back_own]
    cases j with
    | zero => rfl
    | succ j => rfl
  refine ⟨[true], _, _, _, .own 0 off len :: xs.map fun _ => .dead, r, [(0, .arr m ys')], gather_own hn hr, ?_, ?_, ?_, ?_, .inl ⟨.inr ⟨hfl, flatO_one hfo⟩, ?_⟩⟩
  · simp only [List.filterMap_cons, Arg.name?, names_dat, nodup, List.all_cons, List.all_nil, hnl]
    simp
  · have e1 : (xs.map Arg.dat).map (argV [n]) = xs.map .d := by rw [List.map_map]; rfl
    simp only [List.map_cons, e1, argV, renC, hidx, objs, hn, renO]
    exact hc
  · simp only [outsFit, hget, isArr, outsFit_dat, smallKeys]
    simp [nodup]
  · refine ⟨?_, ownFit_dat xs⟩
    simp [sameLen, hn, hget, hl]
  · rw [updOf, hb]
    simpa [renO] using hk
end


theorem toDs_nil {h : Heap} : toDs h [] = some ([], []) := rfl
theorem toDs_d {h : Heap} {x : D} {vs : List V} {xs : List D} {ls : List Nat} (e : toDs h vs = some (xs, ls)) : toDs h (.d x :: vs) = some (x :: xs, ls) := by
  simp [toDs, toD, cD, e]
theorem toDs_nils {h : Heap} {vs : List V} {xs : List D} {ls : List Nat} (e : toDs h vs = some (xs, ls)) : toDs h (.nils :: vs) = some (.sl [] :: xs, ls) := by
  simp [toDs, toD, cD, e]
theorem toDs_own {h : Heap} {n off len m : Nat} {ys : List (List D)} {vs : List V} {xs : List D} {ls : List Nat} (ho : h n = some (.arr m ys)) (e : toDs h vs = some (xs, ls)) :
    toDs h (.own n off len :: vs) = some (.sl ((ys.drop off).take len) :: xs, n :: ls) := by
  simp [toDs, toD, cD, e, ho]
theorem toDs_own' {h : Heap} {n m : Nat} {ys : List (List D)} {vs : List V} {xs : List D} {ls : List Nat} (ho : h n = some (.arr m ys)) (e : toDs h vs = some (xs, ls)) :
    toDs h (.own n 0 ys.length :: vs) = some (.sl ys :: xs, n :: ls) := by
  simp [toDs, toD, cD, e, ho]
theorem toDs_agg {h : Heap} {cs : List V} {ds : List D} {l : List Nat} {vs : List V} {xs : List D} {ls : List Nat} (ho : cDs h cs = some (ds, l)) (e : toDs h vs = some (xs, ls)) :
    toDs h (.agg cs :: vs) = some (.agg ds :: xs, l ++ ls) := by
  simp [toDs, toD, e, ho]

theorem flat_d {x : D} (h : Flat x) : FlatV (.d x) := .d h
theorem flatH_nil : FlatH [] := fun p hp => by cases hp
theorem flatH_cons {n : Nat} {o : AObj} {H : List (Nat × AObj)} (h1 : FlatO o) (h2 : FlatH H) : FlatH ((n, o) :: H) := fun p hp => by
  rcases List.mem_cons.1 hp with rfl | hp
  · exact h1
  · exact h2 p hp

theorem onSome_of {α : Type} {F : α → Prop} {o : Option α} {x : α} (h : o = some x) (hk : F x) : onSome o F := by subst h; exact hk
theorem commP_of {n : Nat} {all : List Oper} {fs : List Foot} (h : commOK all fs = true) : commP n all fs := h

/-! numbers -/
theorem wrap64 (n : Int) : IntKind.i64.wrap n = (n + 9223372036854775808) % 18446744073709551616 - 9223372036854775808 := by
  simp [IntKind.wrap, IntKind.bits, IntKind.signed]
  split <;> omega
theorem wrap_int {n : Int} (h1 : -9223372036854775808 ≤ n) (h2 : n < 9223372036854775808) : IntKind.i64.wrap n = n := by
  rw [wrap64]; omega
theorem wrap_succ {i : Nat} (h : i < LEN) : IntKind.i64.wrap ((i : Int) + 1) = ((i + 1 : Nat) : Int) := by
  rw [wrap_int] <;> simp only [LEN] at h <;> omega

end Go.Rx
