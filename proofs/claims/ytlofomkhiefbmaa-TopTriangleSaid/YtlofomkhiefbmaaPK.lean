/- Plain: the script that is made. -/
import Derived.Test.YtlofomkhiefbmaaPC
import Derived.Test.YtlofomkhiefbmaaJI
namespace Go.Proofs.Ytlofomkhiefbmaa
def mkE (a b : List Line) : List Int → Nat → Nat → List Edit
  | [], _, _ => []
  | s :: ss, i, j => if s = 3 then ⟨s, (b.drop j).take 1⟩ :: mkE a b ss i (j + 1) else if s = 1 then ⟨s, (a.drop i).take 1⟩ :: mkE a b ss (i + 1) (j + 1) else ⟨s, (a.drop i).take 1⟩ :: mkE a b ss (i + 1) j
def okW (n m : Nat) : List Int → Nat → Nat → Prop
  | [], _, _ => True
  | s :: ss, i, j => (1 ≤ s ∧ s ≤ 3) ∧ if s = 3 then j < m ∧ okW n m ss i (j + 1) else if s = 1 then i < n ∧ j < m ∧ okW n m ss (i + 1) (j + 1) else i < n ∧ okW n m ss (i + 1) j
theorem take_one {α : Type} {l : List α} {j : Nat} {y : α} (h : l[j]? = some y) : (l.drop j).take 1 = [y] := by
  obtain ⟨h1, h2⟩ := List.getElem?_eq_some_iff.1 h
  rw [List.drop_eq_getElem_cons h1, h2]
  rfl
section
variable {a b : List Line} {ss : List Int} {s : Int} {k i j : Nat} {y : Line} {out : List Edit}
theorem okW_in {n m : Nat} (hk : ss[k]? = some s) (h : okW n m (ss.drop k) i j) (hs : s = 3) : j < m ∧ okW n m (ss.drop (k + 1)) i (j + 1) := by
  obtain ⟨h1, h2⟩ := List.getElem?_eq_some_iff.1 hk
  rw [List.drop_eq_getElem_cons h1, h2] at h
  simpa [okW, hs] using h
theorem okW_keep {n m : Nat} (hk : ss[k]? = some s) (h : okW n m (ss.drop k) i j) (hs : s = 1) : i < n ∧ j < m ∧ okW n m (ss.drop (k + 1)) (i + 1) (j + 1) := by
  obtain ⟨h1, h2⟩ := List.getElem?_eq_some_iff.1 hk
  rw [List.drop_eq_getElem_cons h1, h2] at h
  simpa [okW, hs] using h
theorem okW_out {n m : Nat} (hk : ss[k]? = some s) (h : okW n m (ss.drop k) i j) (hs : ¬ s = 3) (hs' : ¬ s = 1) : i < n ∧ okW n m (ss.drop (k + 1)) (i + 1) j := by
  obtain ⟨h1, h2⟩ := List.getElem?_eq_some_iff.1 hk
  rw [List.drop_eq_getElem_cons h1, h2] at h
  simp only [okW, if_neg hs, if_neg hs'] at h
  exact h.2
theorem okW_any {n m : Nat} (hk : ss[k]? = some s) (h : okW n m (ss.drop k) i j) : 1 ≤ s ∧ s ≤ 3 := by
  obtain ⟨h1, h2⟩ := List.getElem?_eq_some_iff.1 hk
  rw [List.drop_eq_getElem_cons h1, h2] at h
  exact h.1
theorem mkE_in (hk : ss[k]? = some s) (hs : s = 3) (hy : b[j]? = some y) {z : List Edit} (ho : out ++ mkE a b (ss.drop k) i j = z) : (out ++ [⟨s, [y]⟩]) ++ mkE a b (ss.drop (k + 1)) i (j + 1) = z := by
  obtain ⟨h1, h2⟩ := List.getElem?_eq_some_iff.1 hk
  rw [List.drop_eq_getElem_cons h1, h2, mkE, if_pos hs, take_one hy] at ho
  rw [← ho]; simp
theorem mkE_keep (hk : ss[k]? = some s) (hs : s = 1) (hy : a[i]? = some y) {z : List Edit} (ho : out ++ mkE a b (ss.drop k) i j = z) : (out ++ [⟨s, [y]⟩]) ++ mkE a b (ss.drop (k + 1)) (i + 1) (j + 1) = z := by
  obtain ⟨h1, h2⟩ := List.getElem?_eq_some_iff.1 hk
  rw [List.drop_eq_getElem_cons h1, h2, mkE, if_neg (by omega), if_pos hs, take_one hy] at ho
  rw [← ho]; simp
theorem mkE_out (hk : ss[k]? = some s) (hs : ¬ s = 3) (hs' : ¬ s = 1) (hy : a[i]? = some y) {z : List Edit} (ho : out ++ mkE a b (ss.drop k) i j = z) : (out ++ [⟨s, [y]⟩]) ++ mkE a b (ss.drop (k + 1)) (i + 1) j = z := by
  obtain ⟨h1, h2⟩ := List.getElem?_eq_some_iff.1 hk
  rw [List.drop_eq_getElem_cons h1, h2, mkE, if_neg hs, if_neg hs', take_one hy] at ho
  rw [← ho]; simp
end
/-- The steps of the way between two texts are good for them. -/
theorem okW_evs (a b : List Line) : ∀ (N : Nat) (i j : Nat) (p q : Int), a.length - i + (b.length - j) ≤ N → i ≤ a.length → j ≤ b.length → okW a.length b.length (stepsOf (evs (a.drop i) (b.drop j) p q)) i j := by
  intro N
  induction N with
  | zero =>
    intro i j p q h h1 h2
    have e1 : a.drop i = [] := List.drop_eq_nil_of_le (by omega)
    have e2 : b.drop j = [] := List.drop_eq_nil_of_le (by omega)
    rw [e1, e2, evs_nil]; trivial
  | succ N ih =>
    intro i j p q h h1 h2
    by_cases hi : i < a.length <;> by_cases hj : j < b.length
    · have ha := List.drop_eq_getElem_cons hi
      have hb := List.drop_eq_getElem_cons hj
      by_cases e : a[i] = b[j]
      · have h3 := ih (i + 1) (j + 1) (p + 1) (q + 1) (by omega) (by omega) (by omega)
        rw [ha, hb, e, evs_eq]
        simp only [stepsOf, List.map_cons, okW]
        exact ⟨by omega, by rw [if_neg (by omega), if_pos (by first | trivial | rfl)]; exact ⟨hi, hj, h3⟩⟩
      · by_cases h4 : ed (a.drop (i + 1)) (b[j] :: b.drop (j + 1)) < ed (a[i] :: a.drop (i + 1)) (b[j] :: b.drop (j + 1))
        · have h3 := ih (i + 1) j (p + 1) q (by omega) (by omega) (by omega)
          rw [hb] at h3
          rw [ha, hb, evs_out e h4]
          simp only [stepsOf, List.map_cons, okW]
          exact ⟨by omega, by rw [if_neg (by omega), if_neg (by omega)]; exact ⟨hi, h3⟩⟩
        · have h3 := ih i (j + 1) p (q + 1) (by omega) (by omega) (by omega)
          rw [ha] at h3
          rw [ha, hb, evs_in e h4]
          simp only [stepsOf, List.map_cons, okW]
          exact ⟨by omega, by rw [if_pos (by first | trivial | rfl)]; exact ⟨hj, h3⟩⟩
    · have ha := List.drop_eq_getElem_cons hi
      have hb : b.drop j = [] := List.drop_eq_nil_of_le (by omega)
      have h3 := ih (i + 1) j (p + 1) q (by omega) (by omega) (by omega)
      rw [hb] at h3
      rw [ha, hb, evs_l]
      simp only [stepsOf, List.map_cons, okW]
      exact ⟨by omega, by rw [if_neg (by omega), if_neg (by omega)]; exact ⟨hi, h3⟩⟩
    · have hb := List.drop_eq_getElem_cons hj
      have ha : a.drop i = [] := List.drop_eq_nil_of_le (by omega)
      have h3 := ih i (j + 1) p (q + 1) (by omega) (by omega) (by omega)
      rw [ha] at h3
      rw [ha, hb, evs_r]
      simp only [stepsOf, List.map_cons, okW]
      exact ⟨by omega, by rw [if_pos (by first | trivial | rfl)]; exact ⟨hj, h3⟩⟩
    · have e1 : a.drop i = [] := List.drop_eq_nil_of_le (by omega)
      have e2 : b.drop j = [] := List.drop_eq_nil_of_le (by omega)
      rw [e1, e2, evs_nil]; trivial
theorem evs_map {α β : Type} [DecidableEq α] [DecidableEq β] (f : α → β) (a b : List α) (i j : Int) : (∀ x ∈ a, ∀ y ∈ b, f x = f y → x = y) → evs (a.map f) (b.map f) i j = evs a b i j := by
  fun_induction evs a b i j with
  | case1 => intro _; simp [evs_nil]
  | case2 y b i j ih => intro h; rw [List.map_nil, List.map_cons, evs_r]; congr 1; exact ih fun x hx => by cases hx
  | case3 x a i j ih => intro h; rw [List.map_nil, List.map_cons, evs_l]; congr 1; exact ih fun x hx y hy => by cases hy
  | case4 a y b i j ih => intro h; rw [List.map_cons, List.map_cons, evs_eq]; congr 1; exact ih fun x hx z hz => h x (by simp [hx]) z (by simp [hz])
  | case5 x a y b i j hne hlt ih =>
    intro h
    have hf : f x ≠ f y := fun e => hne (h x (by simp) y (by simp) e)
    have e1 := ed_map f (a) (y :: b) fun x hx z hz => h x (by simp [hx]) z hz
    have e2 := ed_map f (x :: a) (y :: b) h
    simp only [List.map_cons] at e1 e2
    rw [List.map_cons, List.map_cons, evs_out hf (by omega)]
    congr 1
    exact ih fun x hx z hz => h x (by simp [hx]) z hz
  | case6 x a y b i j hne hlt ih =>
    intro h
    have hf : f x ≠ f y := fun e => hne (h x (by simp) y (by simp) e)
    have e1 := ed_map f (a) (y :: b) fun x hx z hz => h x (by simp [hx]) z hz
    have e2 := ed_map f (x :: a) (y :: b) h
    simp only [List.map_cons] at e1 e2
    rw [List.map_cons, List.map_cons, evs_in hf (by omega)]
    congr 1
    exact ih fun x hx z hz => h x hx z (by simp [hz])
def makeE (a b : List Line) : List Edit := mkE a b (stepsOf (evs a b 0 0)) 0 0
def makeS (a b : List Line) : List Edit := normalS (makeE a b)
theorem mkE_total (a b : List Line) : ∀ (ss : List Int) (i j : Nat), total (mkE a b ss i j) ≤ ss.length ∧ (mkE a b ss i j).length = ss.length := by
  intro ss
  induction ss with
  | nil => intro i j; simp [mkE, total]
  | cons s ss ih =>
    intro i j
    have key : ∀ (x : Edit) (l : List Edit), x.lines.length ≤ 1 → total l ≤ ss.length ∧ l.length = ss.length → total (x :: l) ≤ (s :: ss).length ∧ (x :: l).length = (s :: ss).length := by
      intro x l h1 ⟨h2, h3⟩
      have : total (x :: l) = x.lines.length + total l := by simp [total]
      rw [this]; simp; omega
    simp only [mkE]
    split
    · exact key _ _ (by simp; omega) (ih _ _)
    · split
      · exact key _ _ (by simp; omega) (ih _ _)
      · exact key _ _ (by simp; omega) (ih _ _)
theorem mkE_dos (a b : List Line) : ∀ (ss : List Int) (i j : Nat), okW a.length b.length ss i j → ∀ x ∈ mkE a b ss i j, 1 ≤ x.do_ ∧ x.do_ ≤ 3 := by
  intro ss
  induction ss with
  | nil => intro i j _ x hx; simp [mkE] at hx
  | cons s ss ih =>
    intro i j h x hx
    simp only [okW] at h
    obtain ⟨h1, h2⟩ := h
    simp only [mkE] at hx
    split at hx
    · rename_i hs
      rw [if_pos hs] at h2
      rcases List.mem_cons.1 hx with rfl | hx
      · exact h1
      · exact ih _ _ h2.2 x hx
    · rename_i hs
      rw [if_neg hs] at h2
      split at hx
      · rename_i hs'
        rw [if_pos hs'] at h2
        rcases List.mem_cons.1 hx with rfl | hx
        · exact h1
        · exact ih _ _ h2.2.2 x hx
      · rename_i hs'
        rw [if_neg hs'] at h2
        rcases List.mem_cons.1 hx with rfl | hx
        · exact h1
        · exact ih _ _ h2.2 x hx
theorem makeE_ok {a b : List Line} (ha : a.length ≤ 400) (hb : b.length ≤ 400) : okS (makeE a b) := by
  have hl := evs_len a b 0 0
  have hw := okW_evs a b _ 0 0 0 0 (Nat.le_refl _) (Nat.zero_le _) (Nat.zero_le _)
  simp only [List.drop_zero] at hw
  obtain ⟨h1, h2⟩ := mkE_total a b (stepsOf (evs a b 0 0)) 0 0
  have h3 : (stepsOf (evs a b 0 0)).length = (evs a b 0 0).length := by simp [stepsOf]
  exact ⟨by unfold makeE; omega, by unfold makeE; omega, mkE_dos a b _ 0 0 hw⟩
end Go.Proofs.Ytlofomkhiefbmaa
