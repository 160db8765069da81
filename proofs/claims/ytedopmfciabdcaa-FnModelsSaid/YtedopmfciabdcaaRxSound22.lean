/-
  Part of the proof that the abstract evaluator is right about the model's run; each lemma names its conditions.
-/
import Derived.Test.YtedopmfciabdcaaRxSound21
namespace Go.Rx
open Go Go.RowKit

/-! ### an operation has one value and one change at a time -/

def Wit (F : OK → Prop) : Prop := ∀ K, F K → ∃ v u, F (eqK v u) ∧ K v u

theorem Wit.leaf (v : V) (u : Upd) : Wit fun K => K v u := fun _ h => ⟨v, u, ⟨rfl, rfl⟩, h⟩
theorem Wit.no : Wit fun _ => False := fun _ h => h.elim
theorem Wit.and {p : Prop} {F : OK → Prop} (hF : Wit F) : Wit fun K => p ∧ F K := fun K h =>
  let ⟨v, u, h1, h2⟩ := hF K h.2; ⟨v, u, ⟨h.1, h1⟩, h2⟩
theorem Wit.or {F G : OK → Prop} (hF : Wit F) (hG : Wit G) : Wit fun K => F K ∨ G K := fun K h => by
  rcases h with h | h
  · obtain ⟨v, u, h1, h2⟩ := hF K h; exact ⟨v, u, .inl h1, h2⟩
  · obtain ⟨v, u, h1, h2⟩ := hG K h; exact ⟨v, u, .inr h1, h2⟩
theorem Wit.ex {α : Sort _} {F : α → OK → Prop} (hF : ∀ x, Wit (F x)) : Wit fun K => ∃ x, F x K := fun K ⟨x, h⟩ =>
  let ⟨v, u, h1, h2⟩ := hF x K h; ⟨v, u, ⟨x, h1⟩, h2⟩
theorem Wit.some {α : Type} {o : Option α} {F : α → OK → Prop} (hF : ∀ x, Wit (F x)) : Wit fun K => onSome o fun x => F x K := by
  cases o with
  | none => exact Wit.no
  | some x => exact hF x
theorem Wit.box {o : Option AObj} {F : List V → OK → Prop} (hF : ∀ x, Wit (F x)) : Wit fun K => onBox o fun x => F x K := by
  cases o with
  | none => exact Wit.no
  | some x => cases x with
    | box c => exact hF c
    | arr => exact Wit.no
theorem Wit.arr {o : Option AObj} {F : Nat → List (List D) → OK → Prop} (hF : ∀ x y, Wit (F x y)) : Wit fun K => onArr o fun x y => F x y K := by
  cases o with
  | none => exact Wit.no
  | some x => cases x with
    | box c => exact Wit.no
    | arr m xs => exact hF m xs
theorem Wit.obj {o : Option AObj} {F : OK → Prop} (hF : Wit F) : Wit fun K => onObj o (F K) := by
  cases o with
  | none => exact Wit.no
  | some x => exact hF
theorem Wit.onInt {x : V} {F : IntKind → Int → OK → Prop} (hF : ∀ x y, Wit (F x y)) : Wit fun K => onInt x fun k n => F k n K := by
  cases x with
  | d y => cases y with
    | int k n => exact hF k n
    | _ => exact Wit.no
  | _ => exact Wit.no

section
variable {h : Heap} {T : Tys} {P : Program} {tb t : Nat}

theorem wit_int {op : BinOp} {k : IntKind} {a b : Int} : Wit (intVC op k a b) := by
  cases op <;> first | exact Wit.no | exact Wit.leaf _ _ | exact Wit.and (Wit.leaf _ _)

theorem wit_str {op : BinOp} {a b : List UInt8} : Wit (strVC op a b) := by
  cases op <;> first | exact Wit.no | exact Wit.leaf _ _ | exact Wit.and (Wit.leaf _ _)

theorem wit_eql {op : BinOp} {b : Bool} : Wit (eqlVC op b) := by
  cases op <;> first | exact Wit.no | exact Wit.leaf _ _

theorem wit_agg {op : BinOp} {k : TK} {x y : Option (List D)} : Wit (aggVC T op k x y) := by
  cases k <;> first
    | exact Wit.no
    | (cases x <;> first
        | exact Wit.no
        | (cases y <;> first
            | exact Wit.no
            | exact Wit.some fun b => wit_eql))

theorem wit_ptr {op : BinOp} {b : Bool} {k : TK} : Wit (ptrVC op b k) := by
  cases k <;> first | exact Wit.no | exact wit_eql

theorem wit_bin {op : BinOp} {x y : V} : Wit (binVC T t op x y) := by
  unfold binVC
  intro K hv
  split at hv
  · exact Wit.and wit_int K hv
  · exact wit_str K hv
  · exact Wit.some (fun b => wit_eql) K hv
  · exact wit_ptr K hv
  · exact wit_ptr K hv
  · exact wit_agg K hv

theorem wit_call {f : FuncId} {args : List V} : Wit (callVC P h tb f args) := by
  unfold callVC
  refine Wit.ex fun ms => Wit.ex fun as => Wit.ex fun ps => Wit.ex fun bs => Wit.ex fun outs => Wit.ex fun res => Wit.ex fun H' => Wit.and (Wit.and (Wit.and (Wit.and (Wit.and (Wit.or (Wit.and (Wit.leaf _ _)) (Wit.leaf _ _))))))

theorem wit_len {ot : Option TI} {x : V} : Wit (lenVC h ot x) := by
  cases x <;> first
    | exact Wit.no
    | exact Wit.and (Wit.leaf _ _)
    | exact Wit.and (Wit.arr fun _ _ => Wit.leaf _ _)
    | (rename_i y; cases y <;> first | exact Wit.no | exact Wit.and (Wit.leaf _ _))

theorem wit_appTo {e : TI} {x : V} {ys : List (List D)} : Wit (appTo h tb e x ys) := by
  cases x with
  | own n off len => cases off with
    | zero => exact Wit.arr fun _ _ => Wit.and (Wit.and (Wit.leaf _ _))
    | succ k => exact Wit.no
  | nils => exact Wit.and (Wit.leaf _ _)
  | _ => exact Wit.no

theorem wit_append {ty ty2 : Option Nat} {x y : V} : Wit (appendVC T h tb ty ty2 x y) := by
  unfold appendVC
  cases isIntT T ty2 with
  | true =>
    show Wit fun K => onSome (ty.bind (elemT T)) fun e => onSome (T e) fun i => appZ tb i x y K
    exact Wit.some fun _ => Wit.some fun i => (by
      cases x <;> first
        | exact Wit.no
        | (cases y <;> first
            | exact Wit.no
            | (rename_i z; cases z <;> first | exact Wit.no | exact Wit.and (Wit.and (Wit.and (Wit.and (Wit.leaf _ _)))))))
  | false =>
    show Wit fun K => Req _ _
    exact Wit.and (Wit.some fun _ => Wit.some fun _ => Wit.some fun _ => wit_appTo)

theorem wit_builtin {b : Builtin} {ts : List Nat} {args : List V} : Wit (builtinVC T h tb b ts args) := by
  match args with
  | [x] => cases b <;> first
      | exact Wit.no
      | exact wit_len
      | exact Wit.some fun _ => (by cases x <;> first | exact Wit.no | exact Wit.arr fun _ _ => Wit.and (Wit.and (Wit.leaf _ _)))
  | [x, y] =>
    cases b <;> first
      | exact Wit.no
      | exact wit_append
      | exact Wit.some fun v => Wit.leaf v []
  | [] => exact Wit.no
  | _ :: _ :: _ :: _ => exact Wit.no

theorem wit_slice {x : V} {lo hi mx : Option V} : Wit (sliceVC T h t x lo hi mx) := by
  cases mx with
  | some m => intro K hv; cases x <;> first | exact hv.elim | (rename_i y; cases y <;> exact hv.elim)
  | none =>
    cases x <;> first
      | exact Wit.no
      | exact Wit.some fun _ => Wit.arr fun _ _ => Wit.and (Wit.and (Wit.some fun _ => Wit.some fun _ => Wit.and (Wit.and (Wit.and (Wit.leaf _ _)))))
      | exact Wit.some fun _ => Wit.and (Wit.some fun _ => Wit.some fun _ => Wit.and (Wit.and (Wit.leaf _ _)))
      | (rename_i y; cases y <;> first
          | exact Wit.no
          | exact Wit.and (Wit.some fun _ => Wit.some fun _ => Wit.and (Wit.and (Wit.and (Wit.leaf _ _))))
          | exact Wit.some fun _ => Wit.and (Wit.and (Wit.some fun _ => Wit.some fun _ => Wit.and (Wit.and (Wit.and (Wit.leaf _ _))))))

theorem wit_index {e : Option Nat} {x i : V} : Wit (indexVC T h e x i) := by
  cases x <;> first
    | exact Wit.no
    | exact Wit.some fun _ => Wit.and (Wit.onInt fun _ _ => Wit.arr fun _ _ => Wit.and (Wit.and (Wit.and (Wit.and (Wit.leaf _ _)))))
    | (rename_i y; cases y <;> first
        | exact Wit.no
        | exact Wit.some fun _ => Wit.and (Wit.onInt fun _ _ => Wit.and (Wit.and (Wit.and (Wit.leaf _ _)))))

theorem wit_load {x : V} : Wit (loadVC T h t x) := by
  cases x <;> first
    | exact Wit.no
    | exact Wit.box fun _ => Wit.and (Wit.leaf _ _)
    | exact Wit.arr fun _ _ => Wit.and (Wit.and (Wit.leaf _ _))
    | (rename_i y; cases y <;> first | exact Wit.no | exact Wit.and (Wit.leaf _ _))

theorem wit_storeTo {ti : TI} {vs : List V} {x : V} : Wit (storeTo h tb ti vs x) := by
  cases x <;> first
    | exact Wit.no
    | exact Wit.box fun _ => Wit.and (Wit.leaf _ _)
    | exact Wit.arr fun _ _ => Wit.some fun _ => Wit.and (Wit.and (Wit.and (Wit.leaf _ _)))

theorem wit_conv {ck : CK} {x : V} : Wit (convVC h tb ck x) := by
  cases ck <;> first
    | exact Wit.no
    | exact Wit.some fun _ => Wit.and (Wit.leaf _ _)
    | (cases x <;> first
        | exact Wit.no
        | (rename_i y; cases y <;> first | exact Wit.no | exact Wit.leaf _ _ | exact Wit.and (Wit.leaf _ _)))

theorem wit_move {ty : Nat} {x : V} : Wit (moveVC T tb ty x) := by
  cases x <;> first
    | exact Wit.leaf _ _
    | (show Wit (moveNil T tb (elemT T ty)); cases elemT T ty <;> exact Wit.leaf _ _)

theorem wit_pick {c a b : V} : Wit (pickVC c a b) := by
  cases c with
  | d y => cases y with
    | bool t => exact Wit.leaf _ _
    | _ => exact Wit.no
  | _ => exact Wit.no

theorem wit_nil {x : V} : Wit (nilVC h x) := by
  cases x <;> first
    | exact Wit.no
    | exact Wit.leaf _ _
    | exact Wit.obj (Wit.leaf _ _)
    | exact Wit.arr fun _ _ => Wit.leaf _ _
    | (rename_i y; cases y <;> first | exact Wit.no | exact Wit.leaf _ _)

theorem wit_un {op : UnOp} {x : V} : Wit (unVC op x) := by
  cases x with
  | d y => cases y <;> first | exact Wit.no | (cases op <;> first | exact Wit.no | exact Wit.leaf _ _)
  | _ => exact Wit.no

theorem wit_fa {off : Nat} {x : V} : Wit (faVC h off x) := by
  cases x <;> first
    | exact Wit.no
    | exact Wit.obj (Wit.leaf _ _)
    | exact Wit.arr fun _ _ => Wit.leaf _ _
    | (rename_i y; cases y <;> first | exact Wit.no | exact Wit.leaf _ _)

theorem wit_strIx {x i : V} : Wit (strIx x i) := by
  cases x with
  | d y => cases y with
    | str s => cases i with
      | d z => cases z with
        | int k n => exact Wit.and (Wit.and (Wit.leaf _ _))
        | _ => exact Wit.no
      | _ => exact Wit.no
    | _ => exact Wit.no
  | _ => exact Wit.no

theorem wit_ext {ix : Nat} {x : V} : Wit (extVC ix x) := by
  cases x with
  | tup vs => exact Wit.some fun v => Wit.leaf v []
  | _ => exact Wit.no

theorem wit_make {ti : TI} {x y : V} : Wit (makeVC tb ti x y) := by
  cases x with
  | d a => cases a with
    | int k n => cases y with
      | d b => cases b with
        | int k' n' => exact Wit.and (Wit.and (Wit.and (Wit.and (Wit.and (Wit.leaf _ _)))))
        | _ => exact Wit.no
      | _ => exact Wit.no
    | _ => exact Wit.no
  | _ => exact Wit.no

theorem wit_callee {args : List V} {x : V} : Wit (calleeVC P h tb args x) := by
  cases x with
  | d y => cases y with
    | clo f cs => exact wit_call
    | _ => exact Wit.no
  | clo f vs => exact Wit.and wit_call
  | _ => exact Wit.no

theorem wit_lit {len : Nat} {ti : TI} {o : Option (List (List D) × List Nat)} : Wit (litVC tb len ti o) := by
  cases o with
  | none => exact Wit.no
  | some q => exact Wit.and (Wit.and (Wit.and (Wit.and (Wit.and (Wit.leaf _ _)))))

theorem op_wit {i : Nat} {o : Oper} {ρ : Operand → V} : Wit (opVC T P i o ρ h) := by
  obtain ⟨dst, op, ty, pos, after, guard⟩ := o
  cases op <;> first
    | exact Wit.no
    | exact wit_move
    | exact Wit.leaf _ _
    | exact wit_pick
    | exact Wit.some fun ti => Wit.and (Wit.and (Wit.leaf _ _))
    | exact Wit.some fun ti => Wit.some fun vs => Wit.and (Wit.and (Wit.leaf _ _))
    | exact Wit.some fun _ => Wit.and (Wit.and (Wit.some fun cs => Wit.leaf _ _))
    | exact Wit.some fun _ => wit_lit
    | exact wit_load
    | exact Wit.some fun _ => Wit.some fun _ => Wit.and (Wit.and (Wit.and wit_storeTo))
    | exact wit_nil
    | exact wit_bin
    | exact wit_un
    | exact wit_conv
    | exact Wit.some fun _ => wit_make
    | exact wit_slice
    | exact Wit.some fun _ => Wit.and wit_fa
    | exact Wit.some fun _ => Wit.some fun _ => Wit.and (Wit.and (Wit.leaf _ _))
    | exact wit_index
    | exact Wit.and wit_strIx
    | exact wit_ext
    | (rename_i fn _ _; cases fn <;> first | exact Wit.no | exact Wit.and (Wit.leaf _ _))
    | (rename_i c; obtain ⟨callee, args, ts⟩ := c
       cases callee <;> first
         | exact Wit.no
         | exact wit_builtin
         | (rename_i x; cases x <;> first | exact wit_call | exact wit_callee))

end
end Go.Rx
