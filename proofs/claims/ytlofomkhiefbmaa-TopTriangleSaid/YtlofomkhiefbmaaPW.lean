/- Plain: the way that the search tells, step by step. -/
import Derived.Test.YtlofomkhiefbmaaPF
namespace Go.Proofs.Ytlofomkhiefbmaa
section
variable {α : Type} [DecidableEq α]
def evs : List α → List α → Int → Int → List (Int × Int × Int)
  | [], [], _, _ => []
  | [], _ :: b, i, j => (3, i, j) :: evs [] b i (j + 1)
  | _ :: a, [], i, j => (2, i, j) :: evs a [] (i + 1) j
  | x :: a, y :: b, i, j => if x = y then (1, i, j) :: evs a b (i + 1) (j + 1) else if ed a (y :: b) < ed (x :: a) (y :: b) then (2, i, j) :: evs a (y :: b) (i + 1) j else (3, i, j) :: evs (x :: a) b i (j + 1)
termination_by a b => a.length + b.length
theorem evs_nil (i j : Int) : evs ([] : List α) [] i j = [] := by rw [evs]
theorem evs_r (y : α) (b : List α) (i j : Int) : evs [] (y :: b) i j = (3, i, j) :: evs [] b i (j + 1) := by rw [evs]
theorem evs_l (x : α) (a : List α) (i j : Int) : evs (x :: a) [] i j = (2, i, j) :: evs a [] (i + 1) j := by rw [evs]
theorem evs_eq (x : α) (a b : List α) (i j : Int) : evs (x :: a) (x :: b) i j = (1, i, j) :: evs a b (i + 1) (j + 1) := by rw [evs, if_pos rfl]
theorem evs_out {x y : α} (h : x ≠ y) {a b : List α} (h2 : ed a (y :: b) < ed (x :: a) (y :: b)) (i j : Int) : evs (x :: a) (y :: b) i j = (2, i, j) :: evs a (y :: b) (i + 1) j := by rw [evs, if_neg h, if_pos h2]
theorem evs_in {x y : α} (h : x ≠ y) {a b : List α} (h2 : ¬ ed a (y :: b) < ed (x :: a) (y :: b)) (i j : Int) : evs (x :: a) (y :: b) i j = (3, i, j) :: evs (x :: a) b i (j + 1) := by rw [evs, if_neg h, if_neg h2]
theorem evs_len (a b : List α) (i j : Int) : (evs a b i j).length ≤ a.length + b.length := by
  fun_induction evs a b i j <;> simp at * <;> omega
end
section
variable {a b : List Int} {i j : Int}
/-- What is still to tell at a place. -/
def evsAt (a b : List Int) (i j : Int) : List (Int × Int × Int) := evs (a.drop i.toNat) (b.drop j.toNat) i j
theorem evsAt_keep (h0 : 0 ≤ i) (h1 : i < a.length) (h2 : 0 ≤ j) (h3 : j < b.length) (he : rd a i = rd b j) : evsAt a b i j = (1, i, j) :: evsAt a b (i + 1) (j + 1) ∧ E a b i j = E a b (i + 1) (j + 1) := by
  refine ⟨?_, E_eq h0 h1 h2 h3 he⟩
  unfold evsAt
  rw [drop_rd h0 h1, drop_rd h2 h3, he, evs_eq]
theorem evsAt_out (h0 : 0 ≤ i) (h1 : i < a.length) (h2 : 0 ≤ j) (h3 : j ≤ b.length) (hn : ¬ (j < b.length ∧ rd a i = rd b j)) (hw : E a b (i + 1) j + 1 ≤ E a b i j) : evsAt a b i j = (2, i, j) :: evsAt a b (i + 1) j ∧ E a b i j = E a b (i + 1) j + 1 := by
  refine ⟨?_, by have := E_out (a := a) (b := b) (y := j) h0 h1; omega⟩
  unfold evsAt
  by_cases hj : j < b.length
  · unfold E at hw
    rw [drop_rd h0 h1, drop_rd h2 hj] at hw
    rw [drop_rd h0 h1, drop_rd h2 hj, evs_out (fun e => hn ⟨hj, e⟩) (by omega)]
  · rw [drop_rd h0 h1, show b.drop j.toNat = [] from List.drop_eq_nil_of_le (by omega), evs_l]
theorem evsAt_in (h0 : 0 ≤ i) (h1 : i ≤ a.length) (h2 : 0 ≤ j) (h3 : j ≤ b.length) (ho : i < a.length ∨ j < b.length) (hn : ¬ (i < a.length ∧ j < b.length ∧ rd a i = rd b j)) (hw : ¬ (i < a.length ∧ E a b (i + 1) j + 1 ≤ E a b i j)) :
    j < b.length ∧ evsAt a b i j = (3, i, j) :: evsAt a b i (j + 1) ∧ E a b i j = E a b i (j + 1) + 1 := by
  have hj : j < b.length := by
    by_cases hj : j < b.length
    · exact hj
    · exfalso
      have hi : i < a.length := by omega
      apply hw
      refine ⟨hi, ?_⟩
      rcases E_ne h0 h1 h2 h3 hn ho with ⟨_, h⟩ | ⟨h, _⟩ <;> omega
  refine ⟨hj, ?_, ?_⟩
  · unfold evsAt
    by_cases hi : i < a.length
    · unfold E at hw
      rw [drop_rd h0 hi, drop_rd h2 hj] at hw
      rw [drop_rd h0 hi, drop_rd h2 hj, evs_in (fun e => hn ⟨hi, hj, e⟩) (fun h => hw ⟨hi, by omega⟩)]
    · rw [drop_rd h2 hj, show a.drop i.toNat = [] from List.drop_eq_nil_of_le (by omega), evs_r]
  · rcases E_ne h0 h1 h2 h3 hn ho with ⟨h, h'⟩ | ⟨_, h⟩
    · exact absurd ⟨h, by omega⟩ hw
    · exact h
theorem evsAt_end : evsAt a b a.length b.length = [] := by simp [evsAt, evs_nil]
end
def pairsOf (l : List (Int × Int × Int)) : List (Int × Int) := l.filterMap fun e => if e.1 = 1 then some e.2 else none
def stepsOf (l : List (Int × Int × Int)) : List Int := l.map (·.1)
theorem pairsOf_keep (l : List (Int × Int × Int)) (i j : Int) : pairsOf (l ++ [(1, i, j)]) = pairsOf l ++ [(i, j)] := by simp [pairsOf]
theorem pairsOf_else (l : List (Int × Int × Int)) {s : Int} (i j : Int) (h : ¬ s = 1) : pairsOf (l ++ [(s, i, j)]) = pairsOf l := by simp [pairsOf, h]
theorem stepsOf_snoc (l : List (Int × Int × Int)) (s i j : Int) : stepsOf (l ++ [(s, i, j)]) = stepsOf l ++ [s] := by simp [stepsOf]
theorem pairsOf_len (l : List (Int × Int × Int)) : (pairsOf l).length ≤ l.length := List.length_filterMap_le _ _
end Go.Proofs.Ytlofomkhiefbmaa
