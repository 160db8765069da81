/-
  Equations by which the abstract evaluator is worked out, each by its definition; no condition.
-/
import Derived.Test.YtedopmfciabdcaaRxVC
namespace Go.Rx
open Go Go.RowKit

def mark {α : Sort _} (x : α) : α := x
@[go_sem] theorem mark_eq {α : Sort _} (x : α) : mark x = x := (rfl)

section
variable {T : Tys} {P : Program} {i : Nat} {d : Option Nat} {ty : Nat} {pos : String} {af : Array Edge} {g : Option (Nat × Bool)} {ρ : Operand → V} {h : Heap} {K : OK}

theorem stepVC_congr {o : Oper} {i' : Nat} (e : mark i = i') : stepVC T P i o ρ h K = stepVC T P i' o ρ h K := by subst e; rfl
attribute [congr] stepVC_congr
@[congr] theorem onNd_congr {x x' : Option (Bool → Prop)} {q : Prop} (e : mark x = x') : onNd x K q = onNd x' K q := by subst e; rfl
@[congr] theorem capVC_congr {b b' : Bool} {l l' : List V} (e : mark b = b') (e2 : l = l') : capVC h b l K = capVC h b' l' K := by subst e; subst e2; rfl
theorem opVC_congr {o : Oper} {i' : Nat} (e : mark i = i') : opVC T P i o ρ h K = opVC T P i' o ρ h K := by subst e; rfl
attribute [congr] opVC_congr

@[go_sem] theorem op_move {x : Operand} : opVC T P i ⟨d, .move x, ty, pos, af, g⟩ ρ h K = keepVC (ρ x) K := rfl
@[go_sem] theorem op_assign {x : Operand} : opVC T P i ⟨d, .assign x, ty, pos, af, g⟩ ρ h K = moveVC T (1000 * (i + 1)) ty (ρ x) K := rfl
@[go_sem] theorem op_pick {c a b : Operand} : opVC T P i ⟨d, .pick c a b, ty, pos, af, g⟩ ρ h K = pickVC (ρ c) (ρ a) (ρ b) K := rfl
@[go_sem] theorem op_alloc {e : Nat} : opVC T P i ⟨d, .alloc e, ty, pos, af, g⟩ ρ h K = onSome (T e) fun ti => allocVC (1000 * (i + 1)) ti K := rfl
@[go_sem] theorem op_box {e : Nat} {x : Operand} : opVC T P i ⟨d, .box e x, ty, pos, af, g⟩ ρ h K = onSome (T e) fun ti => boxVC (1000 * (i + 1)) ti (ρ x) K := rfl
@[go_sem] theorem op_build {t : Nat} {ps : Array (Nat × Operand)} : opVC T P i ⟨d, .build t ps, ty, pos, af, g⟩ ρ h K =
    onSome (structOf (T t)) fun p => Req (p.2.2.length = p.2.1) (Req ((p.1.all fun q => known T q.2) = true) (onSome (buildC T p.1 p.2.1 (zeroV p.2.2) (ps.toList.map fun q => (q.1, ρ q.2))) fun cs => K (.agg cs) [])) := rfl
@[go_sem] theorem op_buildSlice {t n : Nat} {ps : Array (Nat × Operand)} : opVC T P i ⟨d, .buildSlice t n ps, ty, pos, af, g⟩ ρ h K =
    onSome ((elemT T t).bind T) fun ti => litVC (1000 * (i + 1)) n ti (litParts h 0 (ps.toList.map fun p => (p.1, ρ p.2))) K := rfl
@[go_sem] theorem op_load {t : Nat} {a : Operand} : opVC T P i ⟨d, .load t a, ty, pos, af, g⟩ ρ h K = loadVC T h t (ρ a) K := rfl
@[go_sem] theorem op_store {t : Nat} {a x : Operand} : opVC T P i ⟨d, .store t a x, ty, pos, af, g⟩ ρ h K = storeVC T h (1000 * (i + 1)) t (ρ a) (ρ x) K := rfl
@[go_sem] theorem op_nilCheck {x : Operand} : opVC T P i ⟨d, .nilCheck x, ty, pos, af, g⟩ ρ h K = nilVC h (ρ x) K := rfl
@[go_sem] theorem op_binOp {op : BinOp} {t u : Nat} {x y : Operand} : opVC T P i ⟨d, .binOp op t x y u, ty, pos, af, g⟩ ρ h K = binVC T t op (ρ x) (ρ y) K := rfl
@[go_sem] theorem op_unOp {op : UnOp} {t : Nat} {x : Operand} : opVC T P i ⟨d, .unOp op t x, ty, pos, af, g⟩ ρ h K = unVC op (ρ x) K := rfl
@[go_sem] theorem op_convert {s t : Nat} {x : Operand} : opVC T P i ⟨d, .convert s t x, ty, pos, af, g⟩ ρ h K = convVC h (1000 * (i + 1)) (convK (T s) (T t) T) (ρ x) K := rfl
@[go_sem] theorem op_makeFunc {f : Nat} {a b : Array Operand} : opVC T P i ⟨d, .makeFunc (.func f) a b, ty, pos, af, g⟩ ρ h K = (Req (a.toList.length = 0) (K (.clo f (b.toList.map ρ)) [])) := rfl
@[go_sem] theorem op_makeSlice {t : Nat} {l c : Operand} : opVC T P i ⟨d, .makeSlice t l c, ty, pos, af, g⟩ ρ h K = onSome ((elemT T t).bind T) fun ti => makeVC (1000 * (i + 1)) ti (ρ l) (ρ c) K := rfl
@[go_sem] theorem op_slice {t : Nat} {x : Operand} {lo hi mx : Option Operand} : opVC T P i ⟨d, .slice t x lo hi mx, ty, pos, af, g⟩ ρ h K = sliceVC T h t (ρ x) (lo.map ρ) (hi.map ρ) (mx.map ρ) K := rfl
@[go_sem] theorem op_fieldAddr {t f : Nat} {x : Operand} : opVC T P i ⟨d, .fieldAddr t x f, ty, pos, af, g⟩ ρ h K = onSome (fieldOff T t f) fun p => Req (0 < sizeOfT T p.2) (faVC h p.1 (ρ x) K) := rfl
@[go_sem] theorem op_field {t f : Nat} {x : Operand} : opVC T P i ⟨d, .field t x f, ty, pos, af, g⟩ ρ h K = onSome (fieldOff T t f) fun p => fieldVC T p.2 p.1 (ρ x) K := rfl
@[go_sem] theorem op_indexAddr {t : Nat} {x y : Operand} : opVC T P i ⟨d, .indexAddr t x y, ty, pos, af, g⟩ ρ h K = indexVC T h (elemT T t) (ρ x) (ρ y) K := rfl
@[go_sem] theorem op_index {t : Nat} {x y : Operand} : opVC T P i ⟨d, .index t x y, ty, pos, af, g⟩ ρ h K = (Req (isStr (T t) = true) (strIx (ρ x) (ρ y) K)) := rfl
@[go_sem] theorem op_extract {n : Nat} {x : Operand} : opVC T P i ⟨d, .extract x n, ty, pos, af, g⟩ ρ h K = extVC n (ρ x) K := rfl
@[go_sem] theorem op_builtin {b : Builtin} {as : Array Operand} {ts : Array TypeId} : opVC T P i ⟨d, .call ⟨.builtin b, as, ts⟩, ty, pos, af, g⟩ ρ h K =
    builtinVC T h (1000 * (i + 1)) b ts.toList (as.toList.map ρ) K := rfl
@[go_sem] theorem op_call {f : Nat} {as : Array Operand} {ts : Array TypeId} : opVC T P i ⟨d, .call ⟨.value (.func f), as, ts⟩, ty, pos, af, g⟩ ρ h K =
    callVC P h (1000 * (i + 1)) f (as.toList.map ρ) K := rfl
@[go_sem] theorem op_callT {t : Nat} {as : Array Operand} {ts : Array TypeId} : opVC T P i ⟨d, .call ⟨.value (.tmp t), as, ts⟩, ty, pos, af, g⟩ ρ h K =
    calleeVC P h (1000 * (i + 1)) (as.toList.map ρ) (ρ (.tmp t)) K := rfl
end

section
variable {T : Tys} {P : Program} {i : Nat} {d : Option Nat} {ty : Nat} {pos : String} {af : Array Edge} {g : Option (Nat × Bool)} {ρ : Operand → V} {h : Heap} {K : OK}
@[go_sem] theorem st_move {x : Operand} : stepVC T P i ⟨d, .move x, ty, pos, af, g⟩ ρ h K = keepVC (ρ x) K := rfl
@[go_sem] theorem st_assign {x : Operand} : stepVC T P i ⟨d, .assign x, ty, pos, af, g⟩ ρ h K = (moveVC T (1000 * (i + 1)) ty (ρ x) K) := rfl
@[go_sem] theorem st_pick {c a b : Operand} : stepVC T P i ⟨d, .pick c a b, ty, pos, af, g⟩ ρ h K = (pickVC (ρ c) (ρ a) (ρ b) K) := rfl
@[go_sem] theorem st_alloc {e : Nat} : stepVC T P i ⟨d, .alloc e, ty, pos, af, g⟩ ρ h K = (onSome (T e) fun ti => allocVC (1000 * (i + 1)) ti K) := rfl
@[go_sem] theorem st_box {e : Nat} {x : Operand} : stepVC T P i ⟨d, .box e x, ty, pos, af, g⟩ ρ h K = (onSome (T e) fun ti => boxVC (1000 * (i + 1)) ti (ρ x) K) := rfl
@[go_sem] theorem st_build {t : Nat} {ps : Array (Nat × Operand)} : stepVC T P i ⟨d, .build t ps, ty, pos, af, g⟩ ρ h K = (onSome (structOf (T t)) fun p => Req (p.2.2.length = p.2.1) (Req ((p.1.all fun q => known T q.2) = true) (onSome (buildC T p.1 p.2.1 (zeroV p.2.2) (ps.toList.map fun q => (q.1, ρ q.2))) fun cs => K (.agg cs) []))) := rfl
@[go_sem] theorem st_buildSlice {t n : Nat} {ps : Array (Nat × Operand)} : stepVC T P i ⟨d, .buildSlice t n ps, ty, pos, af, g⟩ ρ h K = (onSome ((elemT T t).bind T) fun ti => litVC (1000 * (i + 1)) n ti (litParts h 0 (ps.toList.map fun p => (p.1, ρ p.2))) K) := rfl
@[go_sem] theorem st_load {t : Nat} {a : Operand} : stepVC T P i ⟨d, .load t a, ty, pos, af, g⟩ ρ h K = (loadVC T h t (ρ a) K) := rfl
@[go_sem] theorem st_store {t : Nat} {a x : Operand} : stepVC T P i ⟨d, .store t a x, ty, pos, af, g⟩ ρ h K = (storeVC T h (1000 * (i + 1)) t (ρ a) (ρ x) K) := rfl
@[go_sem] theorem st_nilCheck {x : Operand} : stepVC T P i ⟨d, .nilCheck x, ty, pos, af, g⟩ ρ h K = (nilVC h (ρ x) K) := rfl
@[go_sem] theorem st_unOp {op : UnOp} {t : Nat} {x : Operand} : stepVC T P i ⟨d, .unOp op t x, ty, pos, af, g⟩ ρ h K = (unVC op (ρ x) K) := rfl
@[go_sem] theorem st_convert {s t : Nat} {x : Operand} : stepVC T P i ⟨d, .convert s t x, ty, pos, af, g⟩ ρ h K = (convVC h (1000 * (i + 1)) (convK (T s) (T t) T) (ρ x) K) := rfl
@[go_sem] theorem st_makeFunc {f : Nat} {a b : Array Operand} : stepVC T P i ⟨d, .makeFunc (.func f) a b, ty, pos, af, g⟩ ρ h K = ((Req (a.toList.length = 0) (K (.clo f (b.toList.map ρ)) []))) := rfl
@[go_sem] theorem st_makeSlice {t : Nat} {l c : Operand} : stepVC T P i ⟨d, .makeSlice t l c, ty, pos, af, g⟩ ρ h K = (onSome ((elemT T t).bind T) fun ti => makeVC (1000 * (i + 1)) ti (ρ l) (ρ c) K) := rfl
@[go_sem] theorem st_slice {t : Nat} {x : Operand} {lo hi mx : Option Operand} : stepVC T P i ⟨d, .slice t x lo hi mx, ty, pos, af, g⟩ ρ h K = (sliceVC T h t (ρ x) (lo.map ρ) (hi.map ρ) (mx.map ρ) K) := rfl
@[go_sem] theorem st_fieldAddr {t f : Nat} {x : Operand} : stepVC T P i ⟨d, .fieldAddr t x f, ty, pos, af, g⟩ ρ h K = (onSome (fieldOff T t f) fun p => Req (0 < sizeOfT T p.2) (faVC h p.1 (ρ x) K)) := rfl
@[go_sem] theorem st_field {t f : Nat} {x : Operand} : stepVC T P i ⟨d, .field t x f, ty, pos, af, g⟩ ρ h K = (onSome (fieldOff T t f) fun p => fieldVC T p.2 p.1 (ρ x) K) := rfl
@[go_sem] theorem st_indexAddr {t : Nat} {x y : Operand} : stepVC T P i ⟨d, .indexAddr t x y, ty, pos, af, g⟩ ρ h K = (indexVC T h (elemT T t) (ρ x) (ρ y) K) := rfl
@[go_sem] theorem st_index {t : Nat} {x y : Operand} : stepVC T P i ⟨d, .index t x y, ty, pos, af, g⟩ ρ h K = ((Req (isStr (T t) = true) (strIx (ρ x) (ρ y) K))) := rfl
@[go_sem] theorem st_extract {n : Nat} {x : Operand} : stepVC T P i ⟨d, .extract x n, ty, pos, af, g⟩ ρ h K = (extVC n (ρ x) K) := rfl
@[go_sem] theorem st_call {f : Nat} {as : Array Operand} {ts : Array TypeId} : stepVC T P i ⟨d, .call ⟨.value (.func f), as, ts⟩, ty, pos, af, g⟩ ρ h K = (callVC P h (1000 * (i + 1)) f (as.toList.map ρ) K) := rfl
@[go_sem] theorem st_callT {t : Nat} {as : Array Operand} {ts : Array TypeId} : stepVC T P i ⟨d, .call ⟨.value (.tmp t), as, ts⟩, ty, pos, af, g⟩ ρ h K = (calleeVC P h (1000 * (i + 1)) (as.toList.map ρ) (ρ (.tmp t)) K) := rfl
@[go_sem] theorem st_binOp {op : BinOp} {t u : Nat} {x y : Operand} : stepVC T P i ⟨d, .binOp op t x y u, ty, pos, af, g⟩ ρ h K = onNd (bif isSl (T t) then ndBin h op (ρ x) (ρ y) else none) K (binVC T t op (ρ x) (ρ y) K) := rfl
@[go_sem] theorem st_len {as : Array Operand} {ts : Array TypeId} : stepVC T P i ⟨d, .call ⟨.builtin .len, as, ts⟩, ty, pos, af, g⟩ ρ h K = builtinVC T h (1000 * (i + 1)) .len ts.toList (as.toList.map ρ) K := rfl
@[go_sem] theorem st_append {as : Array Operand} {ts : Array TypeId} : stepVC T P i ⟨d, .call ⟨.builtin .append, as, ts⟩, ty, pos, af, g⟩ ρ h K = builtinVC T h (1000 * (i + 1)) .append ts.toList (as.toList.map ρ) K := rfl
@[go_sem] theorem st_min {as : Array Operand} {ts : Array TypeId} : stepVC T P i ⟨d, .call ⟨.builtin .min, as, ts⟩, ty, pos, af, g⟩ ρ h K = builtinVC T h (1000 * (i + 1)) .min ts.toList (as.toList.map ρ) K := rfl
@[go_sem] theorem st_max {as : Array Operand} {ts : Array TypeId} : stepVC T P i ⟨d, .call ⟨.builtin .max, as, ts⟩, ty, pos, af, g⟩ ρ h K = builtinVC T h (1000 * (i + 1)) .max ts.toList (as.toList.map ρ) K := rfl
@[go_sem] theorem st_clear {as : Array Operand} {ts : Array TypeId} : stepVC T P i ⟨d, .call ⟨.builtin .clear, as, ts⟩, ty, pos, af, g⟩ ρ h K = builtinVC T h (1000 * (i + 1)) .clear ts.toList (as.toList.map ρ) K := rfl
@[go_sem] theorem st_cap {as : Array Operand} {ts : Array TypeId} : stepVC T P i ⟨d, .call ⟨.builtin .cap, as, ts⟩, ty, pos, af, g⟩ ρ h K = capVC h (slTy T ts.toList) (as.toList.map ρ) K := rfl
end

/-! what simp may look into -/
section
variable {T : Tys} {P : Program} {h : Heap} {K : OK} {tb : Nat}
@[congr] theorem moveVC_congr {ty : Nat} {v v' : V} (e : mark v = v') : moveVC T tb ty v K = moveVC T tb ty v' K := by subst e; rfl
@[congr] theorem keepVC_congr {v v' : V} (e : mark v = v') : keepVC v K = keepVC v' K := by subst e; rfl
@[congr] theorem appZ_congr {t t' : TI} {v v' x x' : V} (e0 : mark t = t') (e : v = v') (e2 : x = x') : appZ tb t v x K = appZ tb t' v' x' K := by subst e0; subst e; subst e2; rfl
@[congr] theorem Sel_congr {b b' : Bool} {p q : Prop} (h : mark b = b') : Sel b p q = Sel b' p q := by subst h; rfl
@[go_sem] theorem Sel_true {p q : Prop} : Sel true p q = p := rfl
@[go_sem] theorem Sel_false {p q : Prop} : Sel false p q = q := rfl
@[congr] theorem moveNil_congr {v v' : Option Nat} (e : mark v = v') : moveNil T tb v K = moveNil T tb v' K := by subst e; rfl
@[congr] theorem pickVC_congr {c c' a a' b b' : V} (e : mark c = c') (e1 : a = a') (e2 : b = b') : pickVC c a b K = pickVC c' a' b' K := by subst e; subst e1; subst e2; rfl
@[congr] theorem onSome_congr {α : Type} {F : α → Prop} {x x' : Option α} (e : mark x = x') : onSome x F = onSome x' F := by subst e; rfl
@[congr] theorem onBox_congr {F : List V → Prop} {x x' : Option AObj} (e : mark x = x') : onBox x F = onBox x' F := by subst e; rfl
@[congr] theorem onArr_congr {F : Nat → List (List D) → Prop} {x x' : Option AObj} (e : mark x = x') : onArr x F = onArr x' F := by subst e; rfl
@[congr] theorem onObj_congr {F : Prop} {x x' : Option AObj} (e : mark x = x') : onObj x F = onObj x' F := by subst e; rfl
@[congr] theorem onInt_congr {F : IntKind → Int → Prop} {x x' : V} (e : mark x = x') : onInt x F = onInt x' F := by subst e; rfl
@[congr] theorem allocVC_congr {ti ti' : TI} (e : mark ti = ti') : allocVC tb ti K = allocVC tb ti' K := by subst e; rfl
@[congr] theorem boxVC_congr {ti ti' : TI} {v v' : V} (e : mark ti = ti') (e2 : v = v') : boxVC tb ti v K = boxVC tb ti' v' K := by subst e; subst e2; rfl
@[congr] theorem litVC_congr {n : Nat} {ti ti' : TI} {v v' : Option (List (List D) × List Nat)} (e : mark ti = ti') (e2 : v = v') : litVC tb n ti v K = litVC tb n ti' v' K := by subst e; subst e2; rfl
@[congr] theorem loadVC_congr {t : Nat} {v v' : V} (e : mark v = v') : loadVC T h t v K = loadVC T h t v' K := by subst e; rfl
@[congr] theorem storeVC_congr {t : Nat} {v v' x x' : V} (e : mark v = v') (e2 : x = x') : storeVC T h tb t v x K = storeVC T h tb t v' x' K := by subst e; subst e2; rfl
@[congr] theorem storeTo_congr {ti ti' : TI} {vs vs' : List V} {v v' : V} (e : mark ti = ti') (e1 : vs = vs') (e2 : v = v') : storeTo h tb ti vs v K = storeTo h tb ti' vs' v' K := by subst e; subst e1; subst e2; rfl
@[congr] theorem nilVC_congr {v v' : V} (e : mark v = v') : nilVC h v K = nilVC h v' K := by subst e; rfl
@[congr] theorem binVC_congr {t : Nat} {op : BinOp} {v v' x x' : V} (e : mark v = v') (e2 : x = x') : binVC T t op v x K = binVC T t op v' x' K := by subst e; subst e2; rfl
@[congr] theorem intVC_congr {op : BinOp} {k k' : IntKind} {a a' b b' : Int} (e0 : mark k = k') (e : a = a') (e2 : b = b') : intVC op k a b K = intVC op k' a' b' K := by subst e0; subst e; subst e2; rfl
@[congr] theorem strVC_congr {op : BinOp} {a a' b b' : List UInt8} (e : mark a = a') (e2 : b = b') : strVC op a b K = strVC op a' b' K := by subst e; subst e2; rfl
@[congr] theorem eqlVC_congr {op : BinOp} {b b' : Bool} (e : mark b = b') : eqlVC op b K = eqlVC op b' K := by subst e; rfl
@[congr] theorem aggVC_congr {op : BinOp} {k k' : TK} {a a' b b' : Option (List D)} (e0 : mark k = k') (e : a = a') (e2 : b = b') : aggVC T op k a b K = aggVC T op k' a' b' K := by subst e0; subst e; subst e2; rfl
@[congr] theorem ptrVC_congr {op : BinOp} {b : Bool} {k k' : TK} (e0 : mark k = k') : ptrVC op b k K = ptrVC op b k' K := by subst e0; rfl
@[congr] theorem unVC_congr {op : UnOp} {v v' : V} (e : mark v = v') : unVC op v K = unVC op v' K := by subst e; rfl
@[congr] theorem convVC_congr {c c' : CK} {v v' : V} (e1 : mark c = c') (e : v = v') : convVC h tb c v K = convVC h tb c' v' K := by subst e1; subst e; rfl
@[congr] theorem makeVC_congr {ti ti' : TI} {v v' x x' : V} (e1 : mark ti = ti') (e : v = v') (e2 : x = x') : makeVC tb ti v x K = makeVC tb ti' v' x' K := by subst e1; subst e; subst e2; rfl
@[congr] theorem sliceVC_congr {t : Nat} {v v' : V} {a a' b b' c c' : Option V} (e : mark v = v') (e1 : a = a') (e2 : b = b') (e3 : c = c') : sliceVC T h t v a b c K = sliceVC T h t v' a' b' c' K := by subst e; subst e1; subst e2; subst e3; rfl
@[congr] theorem faVC_congr {o o' : Nat} {v v' : V} (e1 : mark o = o') (e : v = v') : faVC h o v K = faVC h o' v' K := by subst e1; subst e; rfl
@[congr] theorem fieldVC_congr {f f' o o' : Nat} {v v' : V} (e0 : mark f = f') (e1 : o = o') (e : v = v') : fieldVC T f o v K = fieldVC T f' o' v' K := by subst e0; subst e1; subst e; rfl
@[congr] theorem indexVC_congr {o o' : Option Nat} {v v' x x' : V} (e1 : mark o = o') (e : v = v') (e2 : x = x') : indexVC T h o v x K = indexVC T h o' v' x' K := by subst e1; subst e; subst e2; rfl
@[congr] theorem strIx_congr {v v' x x' : V} (e : mark v = v') (e2 : x = x') : strIx v x K = strIx v' x' K := by subst e; subst e2; rfl
@[congr] theorem extVC_congr {n : Nat} {v v' : V} (e : mark v = v') : extVC n v K = extVC n v' K := by subst e; rfl
@[congr] theorem builtinVC_congr {b : Builtin} {ts ts' : List Nat} {v v' : List V} (e0 : mark ts = ts') (e : v = v') : builtinVC T h tb b ts v K = builtinVC T h tb b ts' v' K := by subst e0; subst e; rfl
@[congr] theorem lenVC_congr {t t' : Option TI} {v v' : V} (e0 : mark t = t') (e : v = v') : lenVC h t v K = lenVC h t' v' K := by subst e0; subst e; rfl
@[congr] theorem appendVC_congr {t t' u u' : Option Nat} {v v' x x' : V} (e0 : mark t = t') (e1 : u = u') (e : v = v') (e2 : x = x') : appendVC T h tb t u v x K = appendVC T h tb t' u' v' x' K := by subst e0; subst e1; subst e; subst e2; rfl
@[congr] theorem appTo_congr {t t' : TI} {v v' : V} {x x' : List (List D)} (e0 : mark t = t') (e : v = v') (e2 : x = x') : appTo h tb t v x K = appTo h tb t' v' x' K := by subst e0; subst e; subst e2; rfl
@[congr] theorem clearVC_congr {t t' : TI} {v v' : V} (e0 : mark t = t') (e : v = v') : clearVC h t v K = clearVC h t' v' K := by subst e0; subst e; rfl
@[congr] theorem calleeVC_congr {v v' : V} {x x' : List V} (e : mark v = v') (e2 : x = x') : calleeVC P h tb x v K = calleeVC P h tb x' v' K := by subst e; subst e2; rfl
@[congr] theorem callVC_congr {f : Nat} {x x' : List V} (e2 : mark x = x') : callVC P h tb f x K = callVC P h tb f x' K := by subst e2; rfl
end

/-! code -/
def condVC (T : Tys) (P : Program) (hr hl : Hints) (x y : Code) (s : St) (K : Exit → St → Prop) : V → Prop
  | .d (.bool b) => Way b (cVC T P hr hl x s K) (cVC T P hr hl y s K)
  | _ => False

def nextK {α : Type} (st : α → St) (inv : α → Prop) (m : α → Nat) (x : α) (s : St) : Prop := ∃ y, s = st y ∧ inv y ∧ m y < m x

theorem next_data {α : Type} {st : α → St} {inv : α → Prop} {m : α → Nat} {x : α} {s : St} (y : α) (h0 : s = st y) (hi : inv y) (hm : m y < m x) : nextK st inv m x s := ⟨y, h0, hi, hm⟩

/-- What a round of a loop comes to. -/
def roundK {α : Type} (keep : List Nat) (st : α → St) (inv : α → Prop) (m : α → Nat) (x : α) (K : Exit → St → Prop) : Exit → St → Prop
  | .normal, s'' => nextK st inv m x (prep keep s'')
  | e, s'' => K e s''

/-- A loop, from a state that is prepared. -/
def loopVC (T : Tys) (P : Program) (hr hl : Hints) (c : Code) (keep : List Nat) (s : St) (K : Exit → St → Prop) : Prop :=
  ∃ (α : Type) (st : α → St) (inv : α → Prop) (m : α → Nat), (∃ x, s = st x ∧ inv x) ∧
      ∀ x, inv x → cVC T P hr hl c (st x) (roundK keep st inv m x K)

theorem loop_data {T : Tys} {P : Program} {hr hl : Hints} {c : Code} {keep : List Nat} {s : St} {K : Exit → St → Prop} {α : Type} (st : α → St) (inv : α → Prop) (m : α → Nat) (x0 : α) (h0 : s = st x0) (hi : inv x0)
    (h : ∀ x, inv x → cVC T P hr hl c (st x) (roundK keep st inv m x K)) : loopVC T P hr hl c keep s K := ⟨α, st, inv, m, ⟨x0, h0, hi⟩, h⟩

theorem req {p q : Prop} (h1 : p) (h2 : q) : Req p q := ⟨h1, h2⟩
theorem way {b : Bool} {p q : Prop} (h1 : b = true → p) (h2 : b = false → q) : Way b p q := ⟨h1, h2⟩
theorem way_dec {c : Prop} [Decidable c] {p q : Prop} (h1 : c → p) (h2 : ¬ c → q) : Way (decide c) p q := ⟨fun h => h1 (of_decide_eq_true h), fun h => h2 (of_decide_eq_false h)⟩
theorem way_ndec {c : Prop} [Decidable c] {p q : Prop} (h1 : ¬ c → p) (h2 : c → q) : Way (!decide c) p q := ⟨fun h => h1 (by simpa using h), fun h => h2 (by simpa using h)⟩
theorem way_not {b : Bool} {p q : Prop} (h1 : b = false → p) (h2 : b = true → q) : Way (!b) p q := ⟨fun h => h1 (by simpa using h), fun h => h2 (by simpa using h)⟩
theorem wayT_dec {c : Prop} [Decidable c] {p q : Prop} (h1 : c → p) (h2 : ¬ c → q) : WayG (decide c) true p q := ⟨fun h => h1 (of_decide_eq_true h), fun h => h2 (of_decide_eq_false h)⟩
theorem wayF_dec {c : Prop} [Decidable c] {p q : Prop} (h1 : ¬ c → p) (h2 : c → q) : WayG (decide c) false p q := ⟨fun h => h1 (of_decide_eq_false h), fun h => h2 (of_decide_eq_true h)⟩
theorem wayT_ndec {c : Prop} [Decidable c] {p q : Prop} (h1 : ¬ c → p) (h2 : c → q) : WayG (!decide c) true p q := ⟨fun h => h1 (by simpa using h), fun h => h2 (by simpa using h)⟩
theorem wayF_ndec {c : Prop} [Decidable c] {p q : Prop} (h1 : c → p) (h2 : ¬ c → q) : WayG (!decide c) false p q := ⟨fun h => h1 (by simpa using h), fun h => h2 (by simpa using h)⟩
theorem wayT {b : Bool} {p q : Prop} (h1 : b = true → p) (h2 : b = false → q) : WayG b true p q := ⟨h1, h2⟩
theorem wayF {b : Bool} {p q : Prop} (h1 : b = false → p) (h2 : b = true → q) : WayG b false p q := ⟨h1, h2⟩

def thenK (T : Tys) (P : Program) (hr hl : Hints) (b : Code) (K : Exit → St → Prop) : Exit → St → Prop
  | .normal, s' => cVC T P hr hl b s' K
  | e, s' => K e s'

def blockK (id : Nat) (K : Exit → St → Prop) : Exit → St → Prop
  | .exit i, s' => bif i == id then K .normal s' else K (.exit i) s'
  | e, s' => K e s'

section
variable {T : Tys} {P : Program} {hr hl : Hints} {s : St} {K : Exit → St → Prop}
@[congr] theorem cVC_congr {c : Code} {s' : St} (e : mark s = s') : cVC T P hr hl c s K = cVC T P hr hl c s' K := by subst e; rfl
@[congr] theorem condVC_congr {x y : Code} {v v' : V} (e : mark v = v') : condVC T P hr hl x y s K v = condVC T P hr hl x y s K v' := by subst e; rfl
@[congr] theorem loopVC_congr {c : Code} {k k' : List Nat} {s' : St} (e0 : mark k = k') (e : s = s') : loopVC T P hr hl c k s K = loopVC T P hr hl c k' s' K := by subst e0; subst e; rfl
@[congr] theorem nextK_congr {α : Type} {st : α → St} {inv : α → Prop} {m : α → Nat} {x : α} {s s' : St} (h1 : mark s = s') : nextK st inv m x s = nextK st inv m x s' := by subst h1; rfl
@[congr] theorem roundK_congr {α : Type} {keep : List Nat} {st : α → St} {inv : α → Prop} {m : α → Nat} {x : α} {e e' : Exit} {s' s'' : St} (h1 : mark e = e') (h2 : s' = s'') : roundK keep st inv m x K e s' = roundK keep st inv m x K e' s'' := by subst h1; subst h2; rfl
@[congr] theorem Req_congr {p p' q : Prop} (h : mark p = p') : Req p q = Req p' q := by subst h; rfl
@[congr] theorem Way_congr {b b' : Bool} {p q : Prop} (h : mark b = b') : Way b p q = Way b' p q := by subst h; rfl
@[congr] theorem WayG_congr {b b' w : Bool} {p q : Prop} (h : mark b = b') : WayG b w p q = WayG b' w p q := by subst h; rfl
@[go_sem] theorem Req_true {q : Prop} : Req True q = q := by simp [Req]
@[go_sem] theorem Way_true {p q : Prop} : Way true p q = p := by simp [Way]
@[go_sem] theorem Way_false {p q : Prop} : Way false p q = q := by simp [Way]
@[go_sem] theorem WayG_tt {p q : Prop} : WayG true true p q = p := by simp [WayG]
@[go_sem] theorem WayG_ff {p q : Prop} : WayG false false p q = p := by simp [WayG]
@[go_sem] theorem WayG_tf {p q : Prop} : WayG true false p q = q := by simp [WayG]
@[go_sem] theorem WayG_ft {p q : Prop} : WayG false true p q = q := by simp [WayG]
@[congr] theorem thenK_congr {b : Code} {e e' : Exit} {s' : St} (h1 : mark e = e') (h2 : s = s') : thenK T P hr hl b K e s = thenK T P hr hl b K e' s' := by subst h1; subst h2; rfl
@[congr] theorem blockK_congr {b : Nat} {e e' : Exit} {s' : St} (h1 : mark e = e') (h2 : s = s') : blockK b K e s = blockK b K e' s' := by subst h1; subst h2; rfl
@[congr] theorem seqVC_congr {all l : List Oper} {i i' : Nat} {s' : St} {K : St → Prop} (e0 : mark i = i') (e : s = s') : seqVC T P all i l s K = seqVC T P all i' l s' K := by subst e0; subst e; rfl
@[congr] theorem drawVC_congr {all l : List Oper} {i i' : Nat} {s' : St} {fs : List Foot} {K : St → List Foot → Prop} (e0 : mark i = i') (e : s = s') : drawVC T P all i l s fs K = drawVC T P all i' l s' fs K := by subst e0; subst e; rfl
@[congr] theorem commP_congr {n n' : Nat} {all : List Oper} {fs : List Foot} (e : mark n = n') : commP n all fs = commP n' all fs := by subst e; rfl
@[go_sem] theorem c_skip : cVC T P hr hl .skip s K = K .normal s := rfl
@[go_sem] theorem c_seq {a b : Code} : cVC T P hr hl (.seq a b) s K = cVC T P hr hl a s (thenK T P hr hl b K) := by
  simp only [cVC]; congr 1; funext e s'; cases e <;> rfl
@[go_sem] theorem c_region {id : Nat} {ops : List Oper} : cVC T P hr hl (.region id ops.toArray false) s K = seqVC T P ops 0 ops (prep (hr id) s) (K .normal) := rfl
@[go_sem] theorem c_draw {id : Nat} {ops : List Oper} : cVC T P hr hl (.region id ops.toArray true) s K =
    drawVC T P ops 0 ops (prep (hr id) s) [] fun s' fs => Req (commP 0 ops fs) (K .normal s') := rfl
@[go_sem] theorem c_cond {c : Operand} {x y : Code} : cVC T P hr hl (.cond c x y) s K = condVC T P hr hl x y s K (ev s.env c) := by
  simp only [cVC]; generalize ev s.env c = v; cases v with
  | d x => cases x <;> rfl
  | _ => rfl
@[go_sem] theorem c_block {id : Nat} {c : Code} : cVC T P hr hl (.block id c) s K = cVC T P hr hl c s (blockK id K) := by
  simp only [cVC]; congr 1; funext e s'; cases e <;> simp only [blockK]
  rename_i i; by_cases h : i = id <;> simp [h]
@[go_sem] theorem c_loop {c : Code} : cVC T P hr hl (.loop c) s K = loopVC T P hr hl c (hl (firstRegion c)) (prep (hl (firstRegion c)) s) K := by
  simp only [cVC, loopVC]
  congr 1; funext α; congr 1; funext st; congr 1; funext inv; congr 1; funext m; congr 1
  refine forall_congr fun x => ?_
  refine forall_congr fun hx => ?_
  congr 1; funext e s'; cases e <;> rfl
@[go_sem] theorem c_exit {id : Nat} : cVC T P hr hl (.exit id) s K = K (.exit id) s := rfl
@[go_sem] theorem c_ret : cVC T P hr hl .ret s K = K .ret s := rfl
@[go_sem] theorem c_label {l : Nat} : cVC T P hr hl (.label l) s K = K .normal s := rfl
end


end Go.Rx
