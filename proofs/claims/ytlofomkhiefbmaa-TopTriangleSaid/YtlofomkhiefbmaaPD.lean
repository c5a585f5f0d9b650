/- Plain: the data that the program's types read as. -/
namespace Go.Proofs.Ytlofomkhiefbmaa
structure Line where
  text : ByteArray
  bare : Bool
deriving DecidableEq
structure Edit where
  do_ : Int
  lines : List Line
deriving DecidableEq
structure Hunk where
  oldAt : Int
  old : Int
  newAt : Int
  new_ : Int
  edits : List Edit
deriving DecidableEq
/-! ### scripts -/
def total (s : List Edit) : Nat := (s.map fun x => x.lines.length).sum
/-- A script that is right. -/
structure okS (s : List Edit) : Prop where
  len : s.length ≤ 800
  tot : total s ≤ 800
  dos : ∀ x ∈ s, 1 ≤ x.do_ ∧ x.do_ ≤ 3
def oldS (s : List Edit) : List Line := s.flatMap fun x => if x.do_ = 3 then [] else x.lines
def newS (s : List Edit) : List Line := s.flatMap fun x => if x.do_ = 2 then [] else x.lines
def changed (s : List Edit) : Nat := (s.map fun x => if x.do_ = 2 ∨ x.do_ = 3 then x.lines.length else 0).sum
theorem take_snoc {α : Type} {l : List α} {k : Nat} {x : α} (h : l[k]? = some x) : l.take (k + 1) = l.take k ++ [x] := by
  rw [List.take_add_one, h]; rfl
theorem total_snoc (s : List Edit) (x : Edit) : total (s ++ [x]) = total s + x.lines.length := by simp [total]
theorem total_take {s : List Edit} {k : Nat} {x : Edit} (h : s[k]? = some x) : total (s.take (k + 1)) = total (s.take k) + x.lines.length := by rw [take_snoc h, total_snoc]
theorem total_take_le (s : List Edit) (k : Nat) : total (s.take k) ≤ total s := by
  have h : total s = total (s.take k) + total (s.drop k) := by
    conv => lhs; rw [← List.take_append_drop k s]
    simp only [total, List.map_append, List.sum_append]
  omega
theorem oldS_take {s : List Edit} {k : Nat} {x : Edit} (h : s[k]? = some x) : oldS (s.take (k + 1)) = oldS (s.take k) ++ (if x.do_ = 3 then [] else x.lines) := by rw [take_snoc h]; simp [oldS]
theorem newS_take {s : List Edit} {k : Nat} {x : Edit} (h : s[k]? = some x) : newS (s.take (k + 1)) = newS (s.take k) ++ (if x.do_ = 2 then [] else x.lines) := by rw [take_snoc h]; simp [newS]
theorem changed_take {s : List Edit} {k : Nat} {x : Edit} (h : s[k]? = some x) : changed (s.take (k + 1)) = changed (s.take k) + (if x.do_ = 2 ∨ x.do_ = 3 then x.lines.length else 0) := by rw [take_snoc h]; simp [changed]
theorem oldS_len (s : List Edit) : (oldS s).length ≤ total s := by
  induction s with
  | nil => simp [oldS, total]
  | cons x s ih =>
    have h1 : oldS (x :: s) = (if x.do_ = 3 then [] else x.lines) ++ oldS s := by simp [oldS]
    have h2 : total (x :: s) = x.lines.length + total s := by simp [total]
    rw [h1, h2, List.length_append]
    split <;> simp <;> omega
theorem newS_len (s : List Edit) : (newS s).length ≤ total s := by
  induction s with
  | nil => simp [newS, total]
  | cons x s ih =>
    have h1 : newS (x :: s) = (if x.do_ = 2 then [] else x.lines) ++ newS s := by simp [newS]
    have h2 : total (x :: s) = x.lines.length + total s := by simp [total]
    rw [h1, h2, List.length_append]
    split <;> simp <;> omega
theorem changed_len (s : List Edit) : changed s ≤ total s := by
  induction s with
  | nil => simp [changed, total]
  | cons x s ih =>
    have h1 : changed (x :: s) = (if x.do_ = 2 ∨ x.do_ = 3 then x.lines.length else 0) + changed s := by simp [changed]
    have h2 : total (x :: s) = x.lines.length + total s := by simp [total]
    rw [h1, h2]
    split <;> omega
/-! ### comparing lists place by place -/
section
variable {α : Type} [DecidableEq α] {xs ys : List α}
theorem eq_len (h : ((xs.length : Nat) : Int) ≠ ((ys.length : Nat) : Int)) : false = decide (xs = ys) := by
  symm; rw [decide_eq_false_iff_not]; intro e; subst e; exact h rfl
theorem eq_elem {i : Nat} {x y : α} (hx : xs[i]? = some x) (hy : ys[i]? = some y) (h : ¬ x = y) : false = decide (xs = ys) := by
  symm; rw [decide_eq_false_iff_not]; intro e; subst e; rw [hx] at hy; cases hy; exact h rfl
theorem eq_all {k : Nat} (hq : xs.take k = ys.take k) (h1 : ¬ ((xs.length : Nat) : Int) ≠ ((ys.length : Nat) : Int)) (h2 : ¬ (k : Int) < ((xs.length : Nat) : Int)) : true = decide (xs = ys) := by
  symm; rw [decide_eq_true_eq]
  rwa [List.take_of_length_le (by omega), List.take_of_length_le (by omega)] at hq
theorem take_eq_step {β : Type} {xs ys : List β} {k : Nat} {x y : β} (hq : xs.take k = ys.take k) (hx : xs[k]? = some x) (hy : ys[k]? = some y) (h : x = y) : xs.take (k + 1) = ys.take (k + 1) := by
  rw [take_snoc hx, take_snoc hy, hq, h]
end
end Go.Proofs.Ytlofomkhiefbmaa
