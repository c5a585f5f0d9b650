/- Plain: the rows of the search say how early one can be on each diagonal. -/
import Derived.Test.YtlofomkhiefbmaaPE
namespace Go.Proofs.Ytlofomkhiefbmaa
/-- The distance from a place to the ends. -/
def E (a b : List Int) (x y : Int) : Nat := ed (a.drop x.toNat) (b.drop y.toNat)
theorem drop_rd {a : List Int} {x : Int} (h0 : 0 ≤ x) (h : x < a.length) : a.drop x.toNat = rd a x :: a.drop (x + 1).toNat := by
  have h1 : x.toNat < a.length := by omega
  rw [List.drop_eq_getElem_cons h1, show (x + 1).toNat = x.toNat + 1 by omega]
  simp [rd, List.getD_eq_getElem?_getD, h1]
section
variable {a b : List Int} {x y k : Int}
theorem E_out (h0 : 0 ≤ x) (h : x < a.length) : E a b x y ≤ E a b (x + 1) y + 1 := by
  unfold E; rw [drop_rd h0 h]; exact ed_out _ _ _
theorem E_in (h0 : 0 ≤ y) (h : y < b.length) : E a b x y ≤ E a b x (y + 1) + 1 := by
  unfold E; rw [drop_rd h0 h]; exact ed_in _ _ _
theorem E_diag (h0 : 0 ≤ x) (h : x < a.length) (h1 : 0 ≤ y) (h2 : y < b.length) : E a b (x + 1) (y + 1) ≤ E a b x y := by
  unfold E; rw [drop_rd h0 h, drop_rd h1 h2]; exact ed_diag _ _ _ _
theorem E_eq (h0 : 0 ≤ x) (h : x < a.length) (h1 : 0 ≤ y) (h2 : y < b.length) (he : rd a x = rd b y) : E a b x y = E a b (x + 1) (y + 1) := by
  unfold E; rw [drop_rd h0 h, drop_rd h1 h2, he, ed_eq]
theorem E_end : E a b a.length b.length = 0 := by simp [E, ed_nil]
theorem E_ne (h0 : 0 ≤ x) (h : x ≤ a.length) (h1 : 0 ≤ y) (h2 : y ≤ b.length) (hn : ¬ (x < a.length ∧ y < b.length ∧ rd a x = rd b y)) (ho : x < a.length ∨ y < b.length) :
    (x < a.length ∧ E a b x y = E a b (x + 1) y + 1) ∨ (y < b.length ∧ E a b x y = E a b x (y + 1) + 1) := by
  by_cases hx : x < a.length
  · by_cases hy : y < b.length
    · have hne : rd a x ≠ rd b y := fun e => hn ⟨hx, hy, e⟩
      have e1 : E a b x y = 1 + min (E a b (x + 1) y) (E a b x (y + 1)) := by
        unfold E
        rw [drop_rd h0 hx, drop_rd h1 hy, ed_ne hne]
      rcases Nat.le_total (E a b (x + 1) y) (E a b x (y + 1)) with h3 | h3
      · left; exact ⟨hx, by omega⟩
      · right; exact ⟨hy, by omega⟩
    · left
      refine ⟨hx, ?_⟩
      have hb : b.drop y.toNat = [] := List.drop_eq_nil_of_le (by omega)
      unfold E
      rw [drop_rd h0 hx, hb, ed_nil', ed_nil', List.length_cons]
  · right
    have hy : y < b.length := by omega
    refine ⟨hy, ?_⟩
    have ha : a.drop x.toNat = [] := List.drop_eq_nil_of_le (by omega)
    unfold E
    rw [drop_rd h1 hy, ha, ed_nil, ed_nil, List.length_cons]
theorem E_zero (h0 : 0 ≤ x) (h : x ≤ a.length) (h1 : 0 ≤ y) (h2 : y ≤ b.length) (he : E a b x y = 0) : (a.length : Int) - x = b.length - y := by
  have := (Al.ed (a.drop x.toNat) (b.drop y.toNat)).len
  unfold E at he
  rw [he] at this
  simp at this
  omega
theorem E_slides (k : Int) : ∀ (n : Nat) (s x : Int), x = s + n → 0 ≤ s → k ≤ s → x ≤ a.length → x - k ≤ b.length → E a b x (x - k) ≤ E a b s (s - k) := by
  intro n
  induction n with
  | zero => intro s x h _ _ _ _; have : x = s := by omega
            subst this; exact Nat.le_refl _
  | succ n ih =>
    intro s x h h0 hk h1 h2
    have h3 := ih (s + 1) x (by omega) (by omega) (by omega) h1 h2
    have h4 := E_diag (a := a) (b := b) (x := s) (y := s - k) h0 (by omega) (by omega) (by omega)
    rw [show s - k + 1 = s + 1 - k by omega] at h4
    omega
theorem slide_prop (a b : List Int) (x k : Int) : 0 ≤ x → x ≤ a.length → 0 ≤ x - k → x - k ≤ b.length → 0 ≤ slide a b x k ∧ k ≤ slide a b x k ∧ slide a b x k ≤ x ∧ E a b (slide a b x k) (slide a b x k - k) = E a b x (x - k) := by
  fun_induction slide a b x k with
  | case1 x h ih =>
    intro h0 h1 h2 h3
    obtain ⟨i1, i2, i3, i4⟩ := ih (by omega) (by omega) (by omega) (by omega)
    refine ⟨i1, i2, by omega, i4.trans ?_⟩
    have := E_eq (a := a) (b := b) (x := x - 1) (y := x - k - 1) (by omega) (by omega) (by omega) (by omega) h.2.2
    rw [show x - 1 + 1 = x by omega, show x - k - 1 + 1 = x - k by omega] at this
    rw [show x - 1 - k = x - k - 1 by omega]
    exact this
  | case2 x h => intro h0 h1 h2 h3; exact ⟨h0, by omega, by omega, rfl⟩
theorem slide_ge (a b : List Int) (x k : Int) : ∀ x0, 0 ≤ x0 → k ≤ x0 → x0 ≤ x → (∀ z, x0 ≤ z → z < x → rd a z = rd b (z - k)) → slide a b x k ≤ x0 := by
  fun_induction slide a b x k with
  | case1 x h ih =>
    intro x0 h0 hk h1 h2
    by_cases hx : x0 = x
    · have h3 : slide a b (x - 1) k ≤ x - 1 := by
        have : ∀ x k, slide a b x k ≤ x := by
          intro x k
          fun_induction slide a b x k with
          | case1 x h ih => omega
          | case2 x h => omega
        exact this _ _
      omega
    · exact ih x0 h0 hk (by omega) fun z hz1 hz2 => h2 z hz1 (by omega)
  | case2 x h =>
    intro x0 h0 hk h1 h2
    by_cases hx : x0 = x
    · omega
    · exfalso
      refine h ⟨by omega, by omega, ?_⟩
      have := h2 (x - 1) (by omega) (by omega)
      rwa [show x - 1 - k = x - k - 1 by omega] at this
/-- Where the diagonal's run of like numbers ends. -/
theorem follow (k : Int) : ∀ (n : Nat) (x : Int), (a.length : Int) - x ≤ n → 0 ≤ x → k ≤ x → x ≤ a.length → x - k ≤ b.length →
    ∃ x1, x ≤ x1 ∧ x1 ≤ a.length ∧ x1 - k ≤ b.length ∧ (∀ z, x ≤ z → z < x1 → rd a z = rd b (z - k)) ∧ E a b x1 (x1 - k) = E a b x (x - k) ∧ ¬ (x1 < a.length ∧ x1 - k < b.length ∧ rd a x1 = rd b (x1 - k)) := by
  intro n
  induction n with
  | zero => intro x h h0 hk h1 h2; exact ⟨x, by omega, h1, h2, fun z _ _ => by omega, rfl, fun h => by omega⟩
  | succ n ih =>
    intro x h h0 hk h1 h2
    by_cases hs : x < a.length ∧ x - k < b.length ∧ rd a x = rd b (x - k)
    · obtain ⟨x1, i1, i2, i3, i4, i5, i6⟩ := ih (x + 1) (by omega) (by omega) (by omega) (by omega) (by omega)
      refine ⟨x1, by omega, i2, i3, fun z hz1 hz2 => ?_, i5.trans ?_, i6⟩
      · by_cases hz : z = x
        · subst hz; exact hs.2.2
        · exact i4 z (by omega) hz2
      · have := E_eq (a := a) (b := b) (x := x) (y := x - k) h0 hs.1 (by omega) hs.2.1 hs.2.2
        rw [show x + 1 - k = x - k + 1 by omega]
        exact this.symm
    · exact ⟨x, by omega, h1, h2, fun z _ _ => by omega, rfl, hs⟩
end
structure Good (a b : List Int) (d : Nat) (r : List Int) : Prop where
  len : r.length = a.length + b.length + 3
  lo : rd r 0 = far
  hi : rd r (a.length + b.length + 2) = far
  mid : ∀ k, -(b.length : Int) ≤ k → k ≤ a.length → (rd r (k + b.length + 1) = far ∨ (0 ≤ rd r (k + b.length + 1) ∧ k ≤ rd r (k + b.length + 1) ∧ rd r (k + b.length + 1) ≤ a.length ∧ rd r (k + b.length + 1) - k ≤ b.length)) ∧
    ∀ x, 0 ≤ x → k ≤ x → x ≤ a.length → x - k ≤ b.length → (rd r (k + b.length + 1) ≤ x ↔ E a b x (x - k) ≤ d)
theorem rd_set {l : List Int} {i : Nat} {v p : Int} (h0 : 0 ≤ p) (hi : i < l.length) : rd (l.set i v) p = if p = i then v else rd l p := by
  simp only [rd, List.getD_eq_getElem?_getD, List.getElem?_set]
  by_cases h : i = p.toNat
  · rw [if_pos h, if_pos hi, if_pos (show p = (i : Int) by omega)]; rfl
  · rw [if_neg h, if_neg (by omega)]
def newv (a b last : List Int) (k : Int) : Int := if cand a b last k < far then min (rd last (k + b.length + 1)) (slide a b (cand a b last k) k) else rd last (k + b.length + 1)
theorem upRow_len (a b last : List Int) (j : Nat) : (upRow a b last j).length = last.length := by
  induction j with
  | zero => rfl
  | succ j ih => simp only [upRow, upSlot]; split <;> simp [ih]
theorem upRow_rd {a b last : List Int} (hl : last.length = a.length + b.length + 3) : ∀ (j : Nat), j ≤ a.length + b.length + 1 → ∀ k, -(b.length : Int) - 1 ≤ k → k ≤ a.length + 1 →
    rd (upRow a b last j) (k + b.length + 1) = if -(b.length : Int) ≤ k ∧ k < (j : Int) - b.length then newv a b last k else rd last (k + b.length + 1) := by
  intro j
  induction j with
  | zero => intro _ k h1 h2; rw [if_neg (by omega)]; rfl
  | succ j ih =>
    intro hj k h1 h2
    have hlen := upRow_len a b last j
    simp only [upRow, upSlot]
    have ih0 := ih (by omega) ((j : Int) - b.length) (by omega) (by omega)
    rw [if_neg (by omega)] at ih0
    split
    · rename_i hc
      rw [rd_set (by omega) (by omega)]
      by_cases hk : k = (j : Int) - b.length
      · subst hk
        rw [if_pos (by omega), if_pos (by omega), ih0, newv, if_pos hc]
      · rw [if_neg (by omega), ih (by omega) k h1 h2]
        by_cases h3 : -(b.length : Int) ≤ k ∧ k < (j : Int) - b.length
        · rw [if_pos h3, if_pos (by omega)]
        · rw [if_neg h3, if_neg (by omega)]
    · rename_i hc
      by_cases hk : k = (j : Int) - b.length
      · subst hk
        rw [if_pos (by omega), ih0, newv, if_neg hc]
      · rw [ih (by omega) k h1 h2]
        by_cases h3 : -(b.length : Int) ≤ k ∧ k < (j : Int) - b.length
        · rw [if_pos h3, if_pos (by omega)]
        · rw [if_neg h3, if_neg (by omega)]
theorem cand_prop {a b r : List Int} {d : Nat} (hg : Good a b d r) (ha : a.length ≤ 400) (hb : b.length ≤ 400) {k : Int} (h1 : -(b.length : Int) ≤ k) (h2 : k ≤ a.length) :
    (cand a b r k = far ∨ (0 ≤ cand a b r k ∧ k ≤ cand a b r k ∧ cand a b r k ≤ a.length ∧ cand a b r k - k ≤ b.length ∧ E a b (cand a b r k) (cand a b r k - k) ≤ d + 1)) ∧
    ∀ x, 0 ≤ x → k ≤ x → x ≤ a.length → x - k ≤ b.length → ((x < a.length ∧ E a b (x + 1) (x - k) ≤ d) ∨ (x - k < b.length ∧ E a b x (x - k + 1) ≤ d)) → cand a b r k ≤ x := by
  have hfar : far = 1073741824 := rfl
  unfold cand
  simp only
  have f1 : rd r (k + 1 + b.length + 1) = far ∨ k + 1 ≤ a.length := by
    by_cases h : k + 1 ≤ a.length
    · exact .inr h
    · left; have := hg.hi; rwa [show (a.length : Int) + b.length + 2 = k + 1 + b.length + 1 by omega] at this
  have f2 : rd r (k - 1 + b.length + 1) = far ∨ -(b.length : Int) ≤ k - 1 := by
    by_cases h : -(b.length : Int) ≤ k - 1
    · exact .inr h
    · left; have := hg.lo; rwa [show (0 : Int) = k - 1 + b.length + 1 by omega] at this
  have g1 : k + 1 ≤ a.length → ∀ x, 0 ≤ x → k + 1 ≤ x → x ≤ a.length → x - (k + 1) ≤ b.length → (rd r (k + 1 + b.length + 1) ≤ x ↔ E a b x (x - (k + 1)) ≤ d) := fun h => (hg.mid (k + 1) (by omega) h).2
  have g2 : -(b.length : Int) ≤ k - 1 → ∀ x, 0 ≤ x → k - 1 ≤ x → x ≤ a.length → x - (k - 1) ≤ b.length → (rd r (k - 1 + b.length + 1) ≤ x ↔ E a b x (x - (k - 1)) ≤ d) := fun h => (hg.mid (k - 1) h (by omega)).2
  generalize rd r (k + 1 + b.length + 1) = v1 at *
  generalize rd r (k - 1 + b.length + 1) = v2 at *
  have A1 : max (v1 - 1) (max 0 k) < a.length ∧ max (v1 - 1) (max 0 k) - k ≤ b.length → E a b (max (v1 - 1) (max 0 k)) (max (v1 - 1) (max 0 k) - k) ≤ d + 1 := by
    intro ⟨c1, c2⟩
    have hk : k + 1 ≤ a.length := by omega
    have := (g1 hk (max (v1 - 1) (max 0 k) + 1) (by omega) (by omega) (by omega) (by omega)).1 (by omega)
    rw [show max (v1 - 1) (max 0 k) + 1 - (k + 1) = max (v1 - 1) (max 0 k) - k by omega] at this
    have := E_out (a := a) (b := b) (x := max (v1 - 1) (max 0 k)) (y := max (v1 - 1) (max 0 k) - k) (by omega) c1
    omega
  have A2 : max v2 (max 0 k) ≤ a.length ∧ max v2 (max 0 k) - k < b.length → E a b (max v2 (max 0 k)) (max v2 (max 0 k) - k) ≤ d + 1 := by
    intro ⟨c1, c2⟩
    have hk : -(b.length : Int) ≤ k - 1 := by omega
    have := (g2 hk (max v2 (max 0 k)) (by omega) (by omega) (by omega) (by omega)).1 (by omega)
    rw [show max v2 (max 0 k) - (k - 1) = max v2 (max 0 k) - k + 1 by omega] at this
    have := E_in (a := a) (b := b) (x := max v2 (max 0 k)) (y := max v2 (max 0 k) - k) (by omega) c2
    omega
  have B1 : ∀ x, 0 ≤ x → k ≤ x → x - k ≤ b.length → (x < a.length ∧ E a b (x + 1) (x - k) ≤ d) → (max (v1 - 1) (max 0 k) < a.length ∧ max (v1 - 1) (max 0 k) - k ≤ b.length) ∧ max (v1 - 1) (max 0 k) ≤ x := by
    intro x h3 h4 h5 ⟨h6, h7⟩
    have := (g1 (by omega) (x + 1) (by omega) (by omega) (by omega) (by omega)).2 (by rwa [show x + 1 - (k + 1) = x - k by omega])
    omega
  have B2 : ∀ x, 0 ≤ x → k ≤ x → x ≤ a.length → (x - k < b.length ∧ E a b x (x - k + 1) ≤ d) → (max v2 (max 0 k) ≤ a.length ∧ max v2 (max 0 k) - k < b.length) ∧ max v2 (max 0 k) ≤ x := by
    intro x h3 h4 h5 ⟨h6, h7⟩
    have := (g2 (by omega) x (by omega) (by omega) (by omega) (by omega)).2 (by rwa [show x - (k - 1) = x - k + 1 by omega])
    omega
  generalize hy1 : max (v1 - 1) (max 0 k) = y1 at *
  generalize hy2 : max v2 (max 0 k) = y2 at *
  refine ⟨?_, ?_⟩
  · by_cases c1 : y1 < a.length ∧ y1 - k ≤ b.length <;> by_cases c2 : y2 ≤ a.length ∧ y2 - k < b.length
    · rw [if_pos c1, if_pos c2]
      have := A1 c1
      have := A2 c2
      right
      rcases Int.le_total y1 y2 with h | h
      · rw [Int.min_eq_left h]; omega
      · rw [Int.min_eq_right h]; omega
    · rw [if_pos c1, if_neg c2]
      have := A1 c1
      right; omega
    · rw [if_neg c1, if_pos c2]
      have := A2 c2
      right
      rw [Int.min_eq_right (by omega)]; omega
    · rw [if_neg c1, if_neg c2]; left; rfl
  · intro x h3 h4 h5 h6 h7
    rcases h7 with h7 | h7
    · obtain ⟨b1, b2⟩ := B1 x h3 h4 h6 h7
      rw [if_pos b1]
      split <;> omega
    · obtain ⟨b1, b2⟩ := B2 x h3 h4 h5 h7
      rw [if_pos b1]
      split <;> omega
theorem good_step {a b r : List Int} {d : Nat} (hg : Good a b d r) (ha : a.length ≤ 400) (hb : b.length ≤ 400) : Good a b (d + 1) (stepRow a b r) := by
  have hfar : far = 1073741824 := rfl
  have hrd := fun k h1 h2 => upRow_rd (a := a) (b := b) hg.len (a.length + b.length + 1) (Nat.le_refl _) k h1 h2
  refine ⟨by rw [stepRow, upRow_len]; exact hg.len, ?_, ?_, fun k h1 h2 => ?_⟩
  · have := hrd (-(b.length : Int) - 1) (by omega) (by omega)
    rw [if_neg (by omega), show -(b.length : Int) - 1 + b.length + 1 = 0 by omega] at this
    rw [stepRow, this]; exact hg.lo
  · have := hrd (a.length + 1) (by omega) (by omega)
    rw [if_neg (by omega), show (a.length : Int) + 1 + b.length + 1 = a.length + b.length + 2 by omega] at this
    rw [stepRow, this]; exact hg.hi
  · have e1 := hrd k (by omega) (by omega)
    rw [if_pos (by omega)] at e1
    rw [stepRow, e1]
    obtain ⟨m1, m2⟩ := hg.mid k h1 h2
    obtain ⟨c1, c2⟩ := cand_prop hg ha hb h1 h2
    unfold newv
    generalize rd r (k + b.length + 1) = v at *
    generalize cand a b r k = c at *
    by_cases hc : c < far
    · rw [if_pos hc]
      have c1' := c1.resolve_left (by omega)
      obtain ⟨s1, s2, s3, s4⟩ := slide_prop a b c k c1'.1 c1'.2.2.1 (by omega) c1'.2.2.2.1
      have sge := slide_ge a b c k
      generalize slide a b c k = s at *
      refine ⟨by omega, fun x h3 h4 h5 h6 => ⟨fun hle => ?_, fun hE => ?_⟩⟩
      · by_cases hv : v ≤ x
        · have := (m2 x h3 h4 h5 h6).1 hv; omega
        · have hs : s ≤ x := by omega
          have := E_slides (a := a) (b := b) k (x - s).toNat s x (by omega) s1 s2 h5 h6
          omega
      · by_cases hd : E a b x (x - k) ≤ d
        · have := (m2 x h3 h4 h5 h6).2 hd; omega
        · obtain ⟨x1, i1, i2, i3, i4, i5, i6⟩ := follow (a := a) (b := b) k ((a.length : Int) - x).toNat x (by omega) h3 h4 h5 h6
          have hend : x1 < a.length ∨ x1 - k < b.length := by
            by_cases h : x1 < a.length ∨ x1 - k < b.length
            · exact h
            · exfalso
              have e1 : x1 = a.length := by omega
              have e2 : x1 - k = b.length := by omega
              rw [e2, e1, E_end] at i5
              omega
          have hne := E_ne (a := a) (b := b) (x := x1) (y := x1 - k) (by omega) i2 (by omega) i3 i6 hend
          have hcx := c2 x1 (by omega) (by omega) i2 i3 (match hne with | .inl ⟨q1, q2⟩ => .inl ⟨q1, by omega⟩ | .inr ⟨q1, q2⟩ => .inr ⟨q1, by omega⟩)
          by_cases hcx' : c ≤ x
          · omega
          · have := sge x h3 h4 (by omega) fun z hz1 hz2 => i4 z hz1 (by omega)
            omega
    · rw [if_neg hc]
      refine ⟨m1, fun x h3 h4 h5 h6 => ⟨fun hle => by have := (m2 x h3 h4 h5 h6).1 hle; omega, fun hE => ?_⟩⟩
      by_cases hd : E a b x (x - k) ≤ d
      · exact (m2 x h3 h4 h5 h6).2 hd
      · exfalso
        obtain ⟨x1, i1, i2, i3, i4, i5, i6⟩ := follow (a := a) (b := b) k ((a.length : Int) - x).toNat x (by omega) h3 h4 h5 h6
        have hend : x1 < a.length ∨ x1 - k < b.length := by
          by_cases h : x1 < a.length ∨ x1 - k < b.length
          · exact h
          · exfalso
            have e1 : x1 = a.length := by omega
            have e2 : x1 - k = b.length := by omega
            rw [e2, e1, E_end] at i5
            omega
        have hne := E_ne (a := a) (b := b) (x := x1) (y := x1 - k) (by omega) i2 (by omega) i3 i6 hend
        have hcx := c2 x1 (by omega) (by omega) i2 i3 (match hne with | .inl ⟨q1, q2⟩ => .inl ⟨q1, by omega⟩ | .inr ⟨q1, q2⟩ => .inr ⟨q1, by omega⟩)
        omega
def row0 (a b : List Int) : List Int := (List.replicate (a.length + b.length + 3) far).set ((a.length : Int) - b.length + b.length + 1).toNat (slide a b a.length (a.length - b.length))
def fieldRow (a b : List Int) : Nat → List Int
  | 0 => row0 a b
  | d + 1 => stepRow a b (fieldRow a b d)
theorem good_zero {a b : List Int} (ha : a.length ≤ 400) (hb : b.length ≤ 400) : Good a b 0 (row0 a b) := by
  have hfar : far = 1073741824 := rfl
  obtain ⟨s1, s2, s3, s4⟩ := slide_prop a b a.length (a.length - b.length) (by omega) (by omega) (by omega) (by omega)
  have sge := slide_ge a b a.length (a.length - b.length)
  rw [show (a.length : Int) - (a.length - b.length) = b.length by omega, E_end] at s4
  have hr : ∀ p : Int, 0 ≤ p → p < a.length + b.length + 3 → rd (row0 a b) p = if p = (a.length : Int) + 1 then slide a b a.length (a.length - b.length) else far := by
    intro p h0 h1
    rw [row0, rd_set h0 (by simp; omega)]
    by_cases hp : p = (a.length : Int) + 1
    · rw [if_pos hp, if_pos (by omega)]
    · rw [if_neg hp, if_neg (by omega)]
      simp only [rd, List.getD_eq_getElem?_getD, List.getElem?_replicate]
      rw [if_pos (by omega)]; rfl
  generalize hsl : slide a b a.length (a.length - b.length) = s at *
  refine ⟨by simp [row0], ?_, ?_, fun k h1 h2 => ?_⟩
  · rw [hr _ (by omega) (by omega), if_neg (by omega)]
  · rw [hr _ (by omega) (by omega), if_neg (by omega)]
  · rw [hr _ (by omega) (by omega)]
    by_cases hk : k = (a.length : Int) - b.length
    · rw [if_pos (by omega)]
      subst hk
      refine ⟨by omega, fun x h3 h4 h5 h6 => ⟨fun hle => ?_, fun hE => ?_⟩⟩
      · have := E_slides (a := a) (b := b) ((a.length : Int) - b.length) (x - s).toNat s x (by omega) s1 s2 h5 h6
        omega
      · obtain ⟨x1, i1, i2, i3, i4, i5, i6⟩ := follow (a := a) (b := b) ((a.length : Int) - b.length) ((a.length : Int) - x).toNat x (by omega) h3 h4 h5 h6
        by_cases hend : x1 < a.length
        · exfalso
          have hne := E_ne (a := a) (b := b) (x := x1) (y := x1 - (a.length - b.length)) (by omega) i2 (by omega) i3 i6 (.inl hend)
          omega
        · exact sge x h3 h4 h5 fun z hz1 hz2 => i4 z hz1 (by omega)
    · rw [if_neg (by omega)]
      refine ⟨.inl rfl, fun x h3 h4 h5 h6 => ⟨fun hle => by omega, fun hE => ?_⟩⟩
      exfalso
      have := E_zero (a := a) (b := b) (x := x) (y := x - k) h3 h5 (by omega) h6 (by omega)
      omega
theorem good {a b : List Int} (ha : a.length ≤ 400) (hb : b.length ≤ 400) : ∀ d, Good a b d (fieldRow a b d)
  | 0 => good_zero ha hb
  | d + 1 => good_step (good ha hb d) ha hb
/-- The row at the beginnings. -/
theorem field0 {a b : List Int} (ha : a.length ≤ 400) (hb : b.length ≤ 400) (d : Nat) : rd (fieldRow a b d) (0 + b.length + 1) = 0 ↔ ed a b ≤ d := by
  have hfar : far = 1073741824 := rfl
  obtain ⟨m1, m2⟩ := (good ha hb d).mid 0 (by omega) (by omega)
  have := m2 0 (by omega) (by omega) (by omega) (by omega)
  have e : E a b 0 (0 - 0) = ed a b := by simp [E]
  rw [e] at this
  omega
def rowsN (a b : List Int) (d : Nat) : List (List Int) := (List.range (d + 1)).map (fieldRow a b)
theorem rowsN_len (a b : List Int) (d : Nat) : (rowsN a b d).length = d + 1 := by simp [rowsN]
theorem rowsN_at {a b : List Int} {d q : Nat} (h : q ≤ d) : (rowsN a b d)[q]? = some (fieldRow a b q) := by
  simp [rowsN, List.getElem?_range (show q < d + 1 by omega)]
theorem rowsN_last (a b : List Int) (d : Nat) : lastR (rowsN a b d) = fieldRow a b d := by
  have h := rowsN_at (a := a) (b := b) (Nat.le_refl d)
  simp only [lastR, rowsN_len, Nat.add_sub_cancel, List.getD_eq_getElem?_getD, h]
  rfl
theorem rowsN_succ (a b : List Int) (d : Nat) : rowsN a b d ++ [stepRow a b (lastR (rowsN a b d))] = rowsN a b (d + 1) := by
  rw [rowsN_last, rowsN, rowsN, List.range_succ (n := d + 1), List.map_append]
  rfl
theorem rowsN_good {a b : List Int} (ha : a.length ≤ 400) (hb : b.length ≤ 400) {d : Nat} : ∀ r ∈ rowsN a b d, ∃ q, Good a b q r := by
  intro r hr
  obtain ⟨q, _, rfl⟩ := List.mem_map.1 hr
  exact ⟨q, good ha hb q⟩
theorem good_vals {a b r : List Int} {d : Nat} (hg : Good a b d r) (ha : a.length ≤ 400) (_ : b.length ≤ 400) : ∀ v ∈ r, 0 ≤ v ∧ v ≤ 1073741824 := by
  have hfar : far = 1073741824 := rfl
  intro v hv
  obtain ⟨i, hi, rfl⟩ := List.mem_iff_getElem.1 hv
  have hl := hg.len
  have e : r[i] = rd r i := by simp [rd, List.getD_eq_getElem?_getD, hi]
  rw [e]
  by_cases h0 : i = 0
  · subst h0; have := hg.lo; simp at this ⊢; omega
  · by_cases h1 : i = a.length + b.length + 2
    · have := hg.hi
      rw [show (a.length : Int) + b.length + 2 = i by omega] at this
      omega
    · have := (hg.mid ((i : Int) - b.length - 1) (by omega) (by omega)).1
      rw [show (i : Int) - b.length - 1 + b.length + 1 = i by omega] at this
      omega
theorem within_iff {a b : List Int} (ha : a.length ≤ 400) (hb : b.length ≤ 400) {d : Nat} {i j q : Int} (h0 : 0 ≤ i) (h1 : i ≤ a.length) (h2 : 0 ≤ j) (h3 : j ≤ b.length) (h4 : q ≤ d) :
    withinS b (rowsN a b d) i j q = true ↔ 0 ≤ q ∧ (E a b i j : Int) ≤ q := by
  simp only [withinS, decide_eq_true_eq]
  constructor
  · intro ⟨hq, h⟩
    refine ⟨hq, ?_⟩
    have hm := (good ha hb q.toNat).mid (i - j) (by omega) (by omega)
    rw [List.getD_eq_getElem?_getD, rowsN_at (by omega)] at h
    have := (hm.2 i h0 (by omega) h1 (by omega)).1 h
    rw [show i - (i - j) = j by omega] at this
    omega
  · intro ⟨hq, h⟩
    refine ⟨hq, ?_⟩
    have hm := (good ha hb q.toNat).mid (i - j) (by omega) (by omega)
    rw [List.getD_eq_getElem?_getD, rowsN_at (by omega)]
    refine (hm.2 i h0 (by omega) h1 (by omega)).2 ?_
    rw [show i - (i - j) = j by omega]
    omega
end Go.Proofs.Ytlofomkhiefbmaa
