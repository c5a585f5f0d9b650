/- Plain: the search of the shortest way (myers). -/
namespace Go.Proofs.Ytlofomkhiefbmaa
def rd (l : List Int) (i : Int) : Int := l.getD i.toNat 0
def slide (a b : List Int) (x k : Int) : Int :=
  if h : 0 < x ∧ 0 < x - k ∧ rd a (x - 1) = rd b (x - k - 1) then slide a b (x - 1) k else x
termination_by x.toNat
decreasing_by omega
theorem slide_step {a b : List Int} {x k : Int} (h1 : 0 < x) (h2 : 0 < x - k) {u v : Int} (hu : a[(x - 1).toNat]? = some u) (hv : b[(x - k - 1).toNat]? = some v) (h : u = v) : slide a b x k = slide a b (x - 1) k := by
  rw [slide, dif_pos]
  refine ⟨h1, h2, ?_⟩
  simp only [rd, List.getD_eq_getElem?_getD, hu, hv, h]
theorem slide_stop {a b : List Int} {x k : Int} (h : ¬ (0 < x ∧ 0 < x - k ∧ rd a (x - 1) = rd b (x - k - 1))) : slide a b x k = x := by
  rw [slide, dif_neg h]
theorem slide_stop1 {a b : List Int} {x k : Int} (h : ¬ 0 < x) : slide a b x k = x := slide_stop fun h' => h h'.1
theorem slide_stop2 {a b : List Int} {x k : Int} (h : ¬ 0 < x - k) : slide a b x k = x := slide_stop fun h' => h h'.2.1
theorem slide_stop3 {a b : List Int} {x k u v : Int} (hu : a[(x - 1).toNat]? = some u) (hv : b[(x - k - 1).toNat]? = some v) (h : ¬ u = v) : slide a b x k = x := slide_stop fun h' => by
  have := h'.2.2
  simp only [rd, List.getD_eq_getElem?_getD, hu, hv, Option.getD_some] at this
  exact h this
def far : Int := 1073741824
theorem rd_of {l : List Int} {i v : Int} (h : l[i.toNat]? = some v) : rd l i = v := by simp [rd, List.getD_eq_getElem?_getD, h]
/-- Where one can be on the diagonal k with one step more, ahead of sliding. -/
def cand (a b last : List Int) (k : Int) : Int :=
  let y1 := max (rd last (k + 1 + b.length + 1) - 1) (max 0 k)
  let y2 := max (rd last (k - 1 + b.length + 1)) (max 0 k)
  let x1 := if y1 < a.length ∧ y1 - k ≤ b.length then y1 else far
  if y2 ≤ a.length ∧ y2 - k < b.length then min x1 y2 else x1
def upSlot (a b last r : List Int) (k : Int) : List Int :=
  if cand a b last k < far then r.set (k + b.length + 1).toNat (min (rd r (k + b.length + 1)) (slide a b (cand a b last k) k)) else r
def upRow (a b last : List Int) : Nat → List Int
  | 0 => last
  | j + 1 => upSlot a b last (upRow a b last j) (j - b.length)
def stepRow (a b last : List Int) : List Int := upRow a b last (a.length + b.length + 1)
def lastR (rows : List (List Int)) : List Int := rows.getD (rows.length - 1) []
theorem lastR_of {rows : List (List Int)} {x : List Int} {i : Int} (hi : i.toNat = rows.length - 1) (h : rows[i.toNat]? = some x) : lastR rows = x := by
  rw [hi] at h
  simp [lastR, List.getD_eq_getElem?_getD, h]
def withinS (b : List Int) (rows : List (List Int)) (i j q : Int) : Bool := decide (0 ≤ q ∧ rd (rows.getD q.toNat []) (i - j + b.length + 1) ≤ i)
theorem within_yes {b : List Int} {rows : List (List Int)} {i j q x : Int} {r : List Int} (h0 : 0 ≤ q) (h1 : rows[q.toNat]? = some r) (h2 : r[(i - j + b.length + 1).toNat]? = some x) : decide (x ≤ i) = withinS b rows i j q := by
  simp [withinS, h0, List.getD_eq_getElem?_getD, h1, rd_of h2]
theorem within_no {b : List Int} {rows : List (List Int)} {i j q : Int} (h0 : ¬ 0 ≤ q) : false = withinS b rows i j q := by
  simp [withinS, h0]
theorem cand_eq {a b last : List Int} {k v1 v2 x1 x : Int} (h1 : last[(k + 1 + b.length + 1).toNat]? = some v1) (h2 : last[(k - 1 + b.length + 1).toNat]? = some v2)
    (c1 : (max (v1 - 1) (max 0 k) < a.length ∧ max (v1 - 1) (max 0 k) - k ≤ b.length) ∧ x1 = max (v1 - 1) (max 0 k) ∨ ¬ (max (v1 - 1) (max 0 k) < a.length ∧ max (v1 - 1) (max 0 k) - k ≤ b.length) ∧ x1 = far)
    (c2 : (max v2 (max 0 k) ≤ a.length ∧ max v2 (max 0 k) - k < b.length) ∧ x = min x1 (max v2 (max 0 k)) ∨ ¬ (max v2 (max 0 k) ≤ a.length ∧ max v2 (max 0 k) - k < b.length) ∧ x = x1) : cand a b last k = x := by
  unfold cand
  simp only [rd_of h1, rd_of h2]
  rcases c1 with ⟨c1, e1⟩ | ⟨c1, e1⟩ <;> rcases c2 with ⟨c2, e2⟩ | ⟨c2, e2⟩ <;> subst e1 e2
  · rw [if_pos c1, if_pos c2]
  · rw [if_pos c1, if_neg c2]
  · rw [if_neg c1, if_pos c2]
  · rw [if_neg c1, if_neg c2]
theorem upRow_skip {a b last : List Int} {k x : Int} {j : Nat} (hj : k = j - b.length) (hc : cand a b last k = x) (hx : ¬ x < far) : upRow a b last (j + 1) = upRow a b last j := by
  subst hj
  simp only [upRow, upSlot, hc, if_neg hx]
theorem upRow_set {a b last r : List Int} {k x v : Int} {j : Nat} (hj : k = j - b.length) (hr : r = upRow a b last j) (hc : cand a b last k = x) (hx : x < far) (hv : r[(k + b.length + 1).toNat]? = some v) : r.set (k + b.length + 1).toNat (min v (slide a b x k)) = upRow a b last (j + 1) := by
  subst hj
  simp only [upRow, upSlot, hc, if_pos hx, ← hr, rd_of hv]
end Go.Proofs.Ytlofomkhiefbmaa
