/- Plain: the distance of two rows, alignments, and what the search's rows say. -/
import Derived.Test.YtlofomkhiefbmaaPM
namespace Go.Proofs.Ytlofomkhiefbmaa
section
variable {α : Type} [DecidableEq α]
def ed : List α → List α → Nat
  | [], b => b.length
  | x :: a, [] => (x :: a).length
  | x :: a, y :: b => if x = y then ed a b else 1 + min (ed a (y :: b)) (ed (x :: a) b)
termination_by a b => a.length + b.length
theorem ed_nil (b : List α) : ed [] b = b.length := by rw [ed]
theorem ed_nil' (a : List α) : ed a [] = a.length := by cases a <;> rw [ed]
theorem ed_eq (x : α) (a b : List α) : ed (x :: a) (x :: b) = ed a b := by rw [ed, if_pos rfl]
theorem ed_ne {x y : α} (h : x ≠ y) (a b : List α) : ed (x :: a) (y :: b) = 1 + min (ed a (y :: b)) (ed (x :: a) b) := by rw [ed, if_neg h]
/-- A way from one row to another one, with so many lines out and in. -/
inductive Al : List α → List α → Nat → Prop where
  | nil : Al [] [] 0
  | keep (x : α) {a b : List α} {n : Nat} (h : Al a b n) : Al (x :: a) (x :: b) n
  | out (x : α) {a b : List α} {n : Nat} (h : Al a b n) : Al (x :: a) b (n + 1)
  | in_ (y : α) {a b : List α} {n : Nat} (h : Al a b n) : Al a (y :: b) (n + 1)
theorem Al.ins {β : Type} (b : List β) : Al [] b b.length := by
  induction b with
  | nil => exact .nil
  | cons y b ih => exact .in_ y ih
theorem Al.outs {β : Type} (a : List β) : Al a [] a.length := by
  induction a with
  | nil => exact .nil
  | cons y b ih => exact .out y ih
theorem Al.tail {β : Type} {a b : List β} {n : Nat} (h : Al a b n) : ∀ x a', a = x :: a' → ∃ k, k ≤ n + 1 ∧ Al a' b k := by
  induction h with
  | nil => intro x a' e; cases e
  | keep x h ih => intro x' a' e; cases e; exact ⟨_, Nat.le_refl _, .in_ _ h⟩
  | out x h ih => intro x' a' e; cases e; exact ⟨_, by omega, h⟩
  | in_ y h ih => intro x' a' e; obtain ⟨k, hk, h'⟩ := ih x' a' e; exact ⟨k + 1, by omega, .in_ y h'⟩
theorem Al.tail' {β : Type} {a b : List β} {n : Nat} (h : Al a b n) : ∀ y b', b = y :: b' → ∃ k, k ≤ n + 1 ∧ Al a b' k := by
  induction h with
  | nil => intro x a' e; cases e
  | keep x h ih => intro x' a' e; cases e; exact ⟨_, Nat.le_refl _, .out _ h⟩
  | in_ x h ih => intro x' a' e; cases e; exact ⟨_, by omega, h⟩
  | out y h ih => intro x' a' e; obtain ⟨k, hk, h'⟩ := ih x' a' e; exact ⟨k + 1, by omega, .out y h'⟩
theorem Al.both {β : Type} {x : β} {a b : List β} {n : Nat} (h : Al (x :: a) (x :: b) n) : ∃ k, k ≤ n ∧ Al a b k := by
  cases h with
  | keep x h => exact ⟨_, Nat.le_refl _, h⟩
  | out x h => obtain ⟨k, hk, h'⟩ := h.tail' _ _ rfl; exact ⟨k, by omega, h'⟩
  | in_ y h => obtain ⟨k, hk, h'⟩ := h.tail _ _ rfl; exact ⟨k, by omega, h'⟩
theorem Al.len {β : Type} {a b : List β} {n : Nat} (h : Al a b n) : a.length ≤ b.length + n ∧ b.length ≤ a.length + n := by
  induction h with
  | nil => simp
  | keep x h ih => simp; omega
  | out x h ih => simp; omega
  | in_ y h ih => simp; omega
theorem Al.ed (a b : List α) : Al a b (ed a b) := by
  fun_induction Go.Proofs.Ytlofomkhiefbmaa.ed a b with
  | case1 b => exact .ins b
  | case2 x a => exact .outs _
  | case3 a y b ih => exact .keep _ ih
  | case4 x a y b h ih1 ih2 =>
    rcases Nat.le_total (Go.Proofs.Ytlofomkhiefbmaa.ed a (y :: b)) (Go.Proofs.Ytlofomkhiefbmaa.ed (x :: a) b) with h1 | h1
    · rw [Nat.min_eq_left h1, Nat.add_comm]; exact .out x ih1
    · rw [Nat.min_eq_right h1, Nat.add_comm]; exact .in_ y ih2
theorem ed_le : ∀ (N : Nat) (a b : List α) (n : Nat), a.length + b.length ≤ N → Al a b n → ed a b ≤ n := by
  intro N
  induction N with
  | zero =>
    intro a b n hN h
    have ha : a = [] := List.eq_nil_of_length_eq_zero (by omega)
    have hb : b = [] := List.eq_nil_of_length_eq_zero (by omega)
    subst ha hb
    rw [ed_nil]; simp
  | succ N ih =>
    intro a b n hN h
    match a, b with
    | [], b => rw [ed_nil]; have := h.len; simp at this; omega
    | x :: a, [] => rw [ed_nil']; have := h.len; simp at this ⊢; omega
    | x :: a, y :: b =>
      by_cases e : x = y
      · subst e
        rw [ed_eq]
        obtain ⟨k, hk, h'⟩ := h.both
        exact Nat.le_trans (ih a b k (by simp at hN; omega) h') hk
      · rw [ed_ne e]
        cases h with
        | keep x h => exact absurd rfl e
        | out x h => have := ih _ _ _ (by simp at hN ⊢; omega) h; omega
        | in_ y h => have := ih _ _ _ (by simp at hN ⊢; omega) h; omega
theorem Al.ge {a b : List α} {n : Nat} (h : Al a b n) : Go.Proofs.Ytlofomkhiefbmaa.ed a b ≤ n := ed_le _ a b n (Nat.le_refl _) h
theorem ed_out (x : α) (a b : List α) : ed (x :: a) b ≤ ed a b + 1 := (Al.out x (Al.ed a b)).ge
theorem ed_in (y : α) (a b : List α) : ed a (y :: b) ≤ ed a b + 1 := (Al.in_ y (Al.ed a b)).ge
theorem ed_diag (x y : α) (a b : List α) : ed a b ≤ ed (x :: a) (y :: b) := by
  by_cases e : x = y
  · subst e; rw [ed_eq]; exact Nat.le_refl _
  · rw [ed_ne e]
    obtain ⟨k, hk, h⟩ := (Al.ed a (y :: b)).tail' _ _ rfl
    obtain ⟨k', hk', h'⟩ := (Al.ed (x :: a) b).tail _ _ rfl
    have := h.ge
    have := h'.ge
    omega
theorem ed_len (a b : List α) : ed a b ≤ a.length + b.length := by
  have h : Al a b (a.length + b.length) := by
    induction a with
    | nil => simpa using Al.ins b
    | cons x a ih => have := Al.out x ih; rwa [show a.length + b.length + 1 = (x :: a).length + b.length by simp; omega] at this
  exact h.ge
/-- Two ways one behind the other. -/
theorem Al.trans {β : Type} {a b : List β} {n : Nat} (h : Al a b n) : ∀ (c : List β) (m : Nat), Al b c m → ∃ k, k ≤ n + m ∧ Al a c k := by
  induction h with
  | nil => intro c m h2; exact ⟨m, by omega, h2⟩
  | out x h ih => intro c m h2; obtain ⟨k, hk, h'⟩ := ih c m h2; exact ⟨k + 1, by omega, .out x h'⟩
  | keep x h ih =>
    rename_i a b n
    intro c
    induction c with
    | nil =>
      intro m h2
      cases h2 with
      | out x h2 => obtain ⟨k, hk, h'⟩ := ih [] _ h2; exact ⟨k + 1, by omega, .out x h'⟩
    | cons z c ihc =>
      intro m h2
      cases h2 with
      | keep x h2 => obtain ⟨k, hk, h'⟩ := ih c _ h2; exact ⟨k, hk, .keep x h'⟩
      | out x h2 => obtain ⟨k, hk, h'⟩ := ih (z :: c) _ h2; exact ⟨k + 1, by omega, .out x h'⟩
      | in_ z h2 => obtain ⟨k, hk, h'⟩ := ihc _ h2; exact ⟨k + 1, by omega, .in_ z h'⟩
  | in_ y h ih =>
    rename_i a b n
    intro c
    induction c with
    | nil =>
      intro m h2
      cases h2 with
      | out x h2 => obtain ⟨k, hk, h'⟩ := ih [] _ h2; exact ⟨k, by omega, h'⟩
    | cons z c ihc =>
      intro m h2
      cases h2 with
      | keep x h2 => obtain ⟨k, hk, h'⟩ := ih c _ h2; exact ⟨k + 1, by omega, .in_ _ h'⟩
      | out x h2 => obtain ⟨k, hk, h'⟩ := ih (z :: c) _ h2; exact ⟨k, by omega, h'⟩
      | in_ z h2 => obtain ⟨k, hk, h'⟩ := ihc _ h2; exact ⟨k + 1, by omega, .in_ z h'⟩
theorem ed_tri (a b c : List α) : ed a c ≤ ed a b + ed b c := by
  obtain ⟨k, hk, h⟩ := (Al.ed a b).trans c _ (Al.ed b c)
  have := h.ge
  omega
theorem ed_map {β : Type} [DecidableEq β] (f : α → β) : ∀ (a b : List α), (∀ x ∈ a, ∀ y ∈ b, f x = f y → x = y) → ed (a.map f) (b.map f) = ed a b := by
  intro a b
  fun_induction ed a b with
  | case1 b => intro _; simp [ed_nil]
  | case2 x a => intro _; simp [ed_nil']
  | case3 a y b ih => intro h; rw [List.map_cons, List.map_cons, ed_eq]; exact ih fun x hx z hz => h x (by simp [hx]) z (by simp [hz])
  | case4 x a y b hne ih1 ih2 =>
    intro h
    have : f x ≠ f y := fun e => hne (h x (by simp) y (by simp) e)
    rw [List.map_cons, List.map_cons, ed_ne this, ← List.map_cons, ← List.map_cons, ih1 fun x hx z hz => h x (by simp [hx]) z hz, ih2 fun x hx z hz => h x hx z (by simp [hz])]
end
end Go.Proofs.Ytlofomkhiefbmaa
