/-
  Part of the proof that the abstract evaluator is right about the model's run; each lemma names its conditions.
-/
import Derived.Test.YtedopmfciabdcaaRxSound24
namespace Go.Rx
open Go Go.RowKit

/-! ### writes in any order -/

section
variable {α : Type}

def upG (u : List (Nat × α)) (H : Nat → α) : Nat → α := u.foldl (fun h p => fun n => if p.1 = n then p.2 else h n) H

theorem upG_ne : ∀ {u : List (Nat × α)} {H : Nat → α} {n : Nat}, n ∉ u.map (·.1) → upG u H n = H n
  | [], _, _, _ => rfl
  | q :: u, H, n, h => by
    have h1 : upG (q :: u) H n = upG u (fun n => if q.1 = n then q.2 else H n) n := rfl
    rw [h1, upG_ne (fun hn => h (by simp [hn]))]
    rw [if_neg (fun e => h (by simp [e]))]

theorem upG_congr : ∀ {u : List (Nat × α)} {H H' : Nat → α} {n : Nat}, (n ∉ u.map (·.1) → H n = H' n) → upG u H n = upG u H' n
  | [], _, _, _, h => h (by simp)
  | q :: u, H, H', n, h => by
    have h1 : ∀ H : Nat → α, upG (q :: u) H n = upG u (fun n => if q.1 = n then q.2 else H n) n := fun _ => rfl
    rw [h1, h1]
    refine upG_congr fun hn => ?_
    by_cases e : q.1 = n
    · rw [if_pos e, if_pos e]
    · rw [if_neg e, if_neg e]
      exact h (by simp only [List.map_cons, List.mem_cons, not_or]; exact ⟨Ne.symm e, hn⟩)

theorem upG_eq {u : List (Nat × α)} {H H' : Nat → α} {n : Nat} (h : n ∈ u.map (·.1)) : upG u H n = upG u H' n := upG_congr fun hn => absurd h hn

theorem upG_comm {u u' : List (Nat × α)} {H : Nat → α} (h : ∀ n, n ∈ u.map (·.1) → n ∉ u'.map (·.1)) : upG u (upG u' H) = upG u' (upG u H) := by
  funext n
  by_cases h1 : n ∈ u.map (·.1)
  · rw [upG_ne (h n h1)]; exact upG_eq h1
  · rw [upG_ne h1]
    exact (upG_congr fun _ => (upG_ne h1).symm)

def runG (S : Nat → Bool) : Nat → List (List (Nat × α)) → (Nat → α) → (Nat → α)
  | _, [], σ => σ
  | k, w :: ws, σ => runG S (k + 1) ws (bif S k then upG w σ else σ)

theorem runG_agree {S S' : Nat → Bool} {t : Nat} : ∀ {k : Nat} {ws : List (List (Nat × α))} {σ σ' : Nat → α},
    (∀ j w, ws[j]? = some w → S (k + j) ≠ S' (k + j) → t ∉ w.map (·.1)) → σ t = σ' t → runG S k ws σ t = runG S' k ws σ' t
  | _, [], _, _, _, h => h
  | k, w :: ws, σ, σ', hw, h => by
    simp only [runG]
    refine runG_agree (fun j w' hj hne => hw (j + 1) w' (by simpa using hj) (by rwa [← Nat.add_assoc, Nat.add_right_comm])) ?_
    have h0 := hw 0 w rfl
    simp only [Nat.add_zero] at h0
    cases hS : S k <;> cases hS' : S' k <;> simp only [cond_true, cond_false]
    · exact h
    · rw [upG_ne (h0 (by simp [hS, hS']))]; exact h
    · rw [upG_ne (h0 (by simp [hS, hS']))]; exact h
    · exact upG_congr fun _ => h

theorem runG_push {S : Nat → Bool} {w : List (Nat × α)} : ∀ {k : Nat} {ws : List (List (Nat × α))} {σ : Nat → α},
    (∀ j w', ws[j]? = some w' → S (k + j) = true → ∀ n, n ∈ w.map (·.1) → n ∉ w'.map (·.1)) → runG S k ws (upG w σ) = upG w (runG S k ws σ)
  | _, [], _, _ => rfl
  | k, w' :: ws, σ, h => by
    simp only [runG]
    have ih := fun σ => runG_push (S := S) (w := w) (k := k + 1) (ws := ws) (σ := σ) (fun j w' hj hS => h (j + 1) w' (by simpa using hj) (by rwa [← Nat.add_assoc, Nat.add_right_comm]))
    cases hS : S k <;> simp only [cond_true, cond_false]
    · exact ih σ
    · rw [← ih, upG_comm (h 0 w' rfl (by simpa using hS))]

theorem runG_ins {S S' : Nat → Bool} {i : Nat} {w : List (Nat × α)} : ∀ {k : Nat} {ws : List (List (Nat × α))} {σ : Nat → α}, ws[i]? = some w → S (k + i) = false →
    (∀ j, S' (k + j) = (S (k + j) || j == i)) → (∀ j w', i < j → ws[j]? = some w' → S (k + j) = true → ∀ n, n ∈ w.map (·.1) → n ∉ w'.map (·.1)) →
    runG S' k ws σ = upG w (runG S k ws σ) := by
  induction i with
  | zero =>
    intro k ws σ hi hS hS' hd
    cases ws with
    | nil => simp at hi
    | cons w0 ws =>
      simp at hi; subst hi
      simp only [runG]
      have h0 := hS' 0
      simp only [Nat.add_zero] at h0 hS
      rw [h0, hS]
      simp only [beq_self_eq_true, Bool.or_true, cond_true, cond_false]
      rw [← runG_push (fun j w' hj hSj => hd (j + 1) w' (by omega) (by simpa using hj) (by rwa [← Nat.add_assoc, Nat.add_right_comm]))]
      funext t
      refine runG_agree (fun j w' hj hne => ?_) rfl
      exfalso
      apply hne
      have := hS' (j + 1)
      rw [← Nat.add_assoc, Nat.add_right_comm] at this
      simpa using this
  | succ i ih =>
    intro k ws σ hi hS hS' hd
    cases ws with
    | nil => simp at hi
    | cons w0 ws =>
      simp at hi
      simp only [runG]
      have h0 := hS' 0
      simp only [Nat.add_zero] at h0
      rw [h0]
      have : (0 == i + 1) = false := rfl
      rw [this, Bool.or_false]
      refine ih hi (by rwa [← Nat.add_assoc, Nat.add_right_comm] at hS) (fun j => ?_) (fun j w' hj hw hSj => hd (j + 1) w' (by omega) (by simpa using hw) (by rwa [← Nat.add_assoc, Nat.add_right_comm]))
      have := hS' (j + 1)
      rw [← Nat.add_assoc, Nat.add_right_comm] at this
      rw [this]
      simp

theorem runG_take {S : Nat → Bool} : ∀ {i k : Nat} {ws : List (List (Nat × α))} {σ : Nat → α}, (∀ j, S (k + j) = decide (j < i)) → runG S k ws σ = runG (fun _ => true) 0 (ws.take i) σ := by
  intro i
  have none : ∀ {k : Nat} {ws : List (List (Nat × α))} {σ : Nat → α}, (∀ j, S (k + j) = false) → runG S k ws σ = σ := by
    intro k ws
    induction ws generalizing k with
    | nil => intros; rfl
    | cons w ws ih =>
      intro σ h
      simp only [runG]
      have h0 := h 0
      simp only [Nat.add_zero] at h0
      rw [h0, ih (fun j => by have := h (j + 1); rwa [← Nat.add_assoc, Nat.add_right_comm] at this)]; rfl
  have shift : ∀ {k k' : Nat} {ws : List (List (Nat × α))} {σ : Nat → α}, runG (fun _ => true) k ws σ = runG (fun _ => true) k' ws σ := by
    intro k k' ws
    induction ws generalizing k k' with
    | nil => intros; rfl
    | cons w ws ih => intro σ; simp only [runG]; exact ih
  induction i with
  | zero => intro k ws σ h; rw [none (fun j => by rw [h j]; simp)]; rfl
  | succ i ih =>
    intro k ws σ h
    cases ws with
    | nil => rfl
    | cons w ws =>
      simp only [runG, List.take_succ_cons]
      have h0 := h 0
      simp only [Nat.add_zero] at h0
      rw [h0, ih (fun j => by have := h (j + 1); rw [← Nat.add_assoc, Nat.add_right_comm] at this; rw [this]; simp)]
      simp only [Nat.zero_lt_succ, decide_true, cond_true]
      exact shift

end

theorem updF_upG (u : Upd) (H : Heap) : updF u H = upG u H := rfl

def dstW (dst : Option Nat) (v : V) : List (Nat × V) := dst.toList.map fun d => (d, v)

theorem put1_upG (e : Nat → V) (dst : Option Nat) (v : V) : put1 e dst v = upG (dstW dst v) e := by
  cases dst with
  | none => funext t; simp [put1, dstW, upG]
  | some d => funext t; simp [put1, dstW, upG]

theorem dstW_keys (dst : Option Nat) (v : V) (n : Nat) : n ∈ (dstW dst v).map (·.1) ↔ dst = some n := by
  cases dst <;> simp [dstW, eq_comm]

end Go.Rx
