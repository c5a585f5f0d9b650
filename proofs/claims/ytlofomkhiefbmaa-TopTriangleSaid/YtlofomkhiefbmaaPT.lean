/- Plain: what the made script says; matches and the distance; the triangle. -/
import Derived.Test.YtlofomkhiefbmaaPK
namespace Go.Proofs.Ytlofomkhiefbmaa
theorem oldS_app (s t : List Edit) : oldS (s ++ t) = oldS s ++ oldS t := by simp [oldS]
theorem newS_app (s t : List Edit) : newS (s ++ t) = newS s ++ newS t := by simp [newS]
theorem changed_app (s t : List Edit) : changed (s ++ t) = changed s + changed t := by simp [changed]
theorem oldS_one (d : Int) (l : List Line) : oldS [⟨d, l⟩] = if d = 3 then [] else l := by simp [oldS]
theorem newS_one (d : Int) (l : List Line) : newS [⟨d, l⟩] = if d = 2 then [] else l := by simp [newS]
theorem changed_one (d : Int) (l : List Line) : changed [⟨d, l⟩] = if d = 2 ∨ d = 3 then l.length else 0 := by simp [changed]
theorem rAdd_cases (s : List Edit) (d : Int) (l : List Line) : (l = [] ∧ rAdd s d l = s) ∨ (∃ s0 m, l ≠ [] ∧ s = s0 ++ [⟨d, m⟩] ∧ rAdd s d l = s0 ++ [⟨d, m ++ l⟩]) ∨ (l ≠ [] ∧ rAdd s d l = s ++ [⟨d, l⟩]) := by
  by_cases hl : l = []
  · left; exact ⟨hl, by subst hl; exact rAdd_nil _ _⟩
  · right
    rcases List.eq_nil_or_concat s with rfl | ⟨s0, x, rfl⟩
    · right; exact ⟨hl, rAdd_zero hl⟩
    · rw [List.concat_eq_append]
      by_cases hd : x.do_ = d
      · left
        refine ⟨s0, x.lines, hl, ?_, rAdd_same hl hd⟩
        subst hd; rfl
      · right; exact ⟨hl, rAdd_new hl hd⟩
theorem oldS_add (s : List Edit) (d : Int) (l : List Line) : oldS (rAdd s d l) = oldS s ++ (if d = 3 then [] else l) := by
  rcases rAdd_cases s d l with ⟨h, e⟩ | ⟨s0, m, h, h', e⟩ | ⟨h, e⟩
  · rw [e, h]; simp
  · rw [e, h', oldS_app, oldS_app, oldS_one, oldS_one]; split <;> simp
  · rw [e, oldS_app, oldS_one]
theorem newS_add (s : List Edit) (d : Int) (l : List Line) : newS (rAdd s d l) = newS s ++ (if d = 2 then [] else l) := by
  rcases rAdd_cases s d l with ⟨h, e⟩ | ⟨s0, m, h, h', e⟩ | ⟨h, e⟩
  · rw [e, h]; simp
  · rw [e, h', newS_app, newS_app, newS_one, newS_one]; split <;> simp
  · rw [e, newS_app, newS_one]
theorem changed_add (s : List Edit) (d : Int) (l : List Line) : changed (rAdd s d l) = changed s + (if d = 2 ∨ d = 3 then l.length else 0) := by
  rcases rAdd_cases s d l with ⟨h, e⟩ | ⟨s0, m, h, h', e⟩ | ⟨h, e⟩
  · rw [e, h]; simp
  · rw [e, h', changed_app, changed_app, changed_one, changed_one]; split <;> simp; omega
  · rw [e, changed_app, changed_one]
def NE (s : List Edit) : Prop := ∀ x ∈ s, x.lines ≠ [] ∧ 1 ≤ x.do_ ∧ x.do_ ≤ 3
theorem NE_add {s : List Edit} {d : Int} {l : List Line} (h : NE s) (hd : 1 ≤ d ∧ d ≤ 3) : NE (rAdd s d l) := by
  rcases rAdd_cases s d l with ⟨_, e⟩ | ⟨s0, m, h1, h', e⟩ | ⟨h1, e⟩
  · rw [e]; exact h
  · rw [e]
    intro x hx
    rcases List.mem_append.1 hx with hx | hx
    · exact h x (by rw [h']; exact List.mem_append_left _ hx)
    · rw [List.mem_singleton.1 hx]; exact ⟨by simp [h1], hd⟩
  · rw [e]
    intro x hx
    rcases List.mem_append.1 hx with hx | hx
    · exact h x hx
    · rw [List.mem_singleton.1 hx]; exact ⟨h1, hd⟩
structure FoldOk (s : List Edit) (p : List Edit × List Line) : Prop where
  old : oldS p.1 = oldS s
  new_ : newS p.1 ++ p.2 = newS s
  ch : changed p.1 + p.2.length = changed s
  ne : NE p.1
theorem foldOk (s : List Edit) : ∀ (done : List Edit) (p : List Edit × List Line), (∀ x ∈ s, 1 ≤ x.do_ ∧ x.do_ ≤ 3) → FoldOk done p → FoldOk (done ++ s) (s.foldl rTake p) := by
  induction s with
  | nil => intro done p _ h; simpa using h
  | cons x s ih =>
    intro done p hd h
    have hx := hd x (by simp)
    rw [List.foldl_cons, show done ++ x :: s = (done ++ [x]) ++ s by simp]
    refine ih _ _ (fun y hy => hd y (by simp [hy])) ?_
    have ex : x = ⟨x.do_, x.lines⟩ := rfl
    have o1 : oldS [x] = if x.do_ = 3 then [] else x.lines := oldS_one x.do_ x.lines
    have n1 : newS [x] = if x.do_ = 2 then [] else x.lines := newS_one x.do_ x.lines
    have c1 : changed [x] = if x.do_ = 2 ∨ x.do_ = 3 then x.lines.length else 0 := changed_one x.do_ x.lines
    by_cases h3 : x.do_ = 3
    · rw [rTake_in h3]
      refine ⟨?_, ?_, ?_, h.ne⟩
      · rw [oldS_app, o1, if_pos h3, List.append_nil]; exact h.old
      · rw [newS_app, n1, if_neg (by omega), ← h.new_, List.append_assoc]
      · rw [changed_app, c1, if_pos (.inr h3), List.length_append, ← h.ch]; simp only; omega
    · by_cases h1 : x.do_ = 1 ∧ 0 < x.lines.length
      · rw [rTake_keep h1.1 h1.2]
        refine ⟨?_, ?_, ?_, NE_add (NE_add h.ne (by omega)) hx⟩
        · rw [oldS_add, oldS_add, oldS_app, o1, if_neg h3, if_pos rfl, List.append_nil, h.old]
        · rw [newS_add, newS_add, newS_app, n1, if_neg (by omega), if_neg (by omega), List.append_nil, h.new_]
        · rw [changed_add, changed_add, changed_app, c1, if_pos (show (3 : Int) = 2 ∨ (3 : Int) = 3 from .inr rfl), if_neg (show ¬ (x.do_ = 2 ∨ x.do_ = 3) by omega), List.length_nil, ← h.ch]
      · rw [rTake_else h3 h1]
        refine ⟨?_, ?_, ?_, NE_add h.ne hx⟩
        · rw [oldS_add, oldS_app, o1, h.old]
        · rw [newS_add, newS_app, n1, ← h.new_]
          by_cases h2 : x.do_ = 2
          · rw [if_pos h2]; simp
          · have : x.lines = [] := List.eq_nil_of_length_eq_zero (by omega)
            rw [this]; simp
        · rw [changed_add, changed_app, c1, ← h.ch]; simp only; omega
theorem normal_ok {s : List Edit} (hd : ∀ x ∈ s, 1 ≤ x.do_ ∧ x.do_ ≤ 3) : oldS (normalS s) = oldS s ∧ newS (normalS s) = newS s ∧ changed (normalS s) = changed s ∧ NE (normalS s) ∧ total (normalS s) = total s := by
  have h := foldOk s [] ([], []) hd ⟨rfl, rfl, rfl, fun x hx => by cases hx⟩
  have ht := foldT_total s ([], [])
  rw [List.nil_append] at h
  unfold normalS
  refine ⟨?_, ?_, ?_, NE_add h.ne (by omega), ?_⟩
  · rw [oldS_add, if_pos rfl, List.append_nil]; exact h.old
  · rw [newS_add, if_neg (by omega)]; exact h.new_
  · rw [changed_add, if_pos (by omega)]; exact h.ch
  · simp only [rAdd_total]; simpa [total] using ht
theorem NE_len {s : List Edit} (h : NE s) : s.length ≤ total s := by
  induction s with
  | nil => simp
  | cons x s ih =>
    have h1 := (h x (by simp)).1
    have h2 := ih fun y hy => h y (by simp [hy])
    have h3 : total (x :: s) = x.lines.length + total s := by simp [total]
    have h4 : 0 < x.lines.length := List.length_pos_iff.2 h1
    rw [h3, List.length_cons]; omega
/-- What the made edits say. -/
theorem mk_evs (a b : List Line) : ∀ (N : Nat) (i j : Nat) (p q : Int), a.length - i + (b.length - j) ≤ N → i ≤ a.length → j ≤ b.length →
    oldS (mkE a b (stepsOf (evs (a.drop i) (b.drop j) p q)) i j) = a.drop i ∧ newS (mkE a b (stepsOf (evs (a.drop i) (b.drop j) p q)) i j) = b.drop j ∧ changed (mkE a b (stepsOf (evs (a.drop i) (b.drop j) p q)) i j) = ed (a.drop i) (b.drop j) := by
  intro N
  have cons : ∀ (d : Int) (l : List Line) (s : List Edit), oldS (⟨d, l⟩ :: s) = (if d = 3 then [] else l) ++ oldS s ∧ newS (⟨d, l⟩ :: s) = (if d = 2 then [] else l) ++ newS s ∧ changed (⟨d, l⟩ :: s) = (if d = 2 ∨ d = 3 then l.length else 0) + changed s := by
    intro d l s
    have e : (⟨d, l⟩ :: s : List Edit) = [⟨d, l⟩] ++ s := rfl
    rw [e, oldS_app, newS_app, changed_app, oldS_one, newS_one, changed_one]
    exact ⟨rfl, rfl, rfl⟩
  induction N with
  | zero =>
    intro i j p q h h1 h2
    have e1 : a.drop i = [] := List.drop_eq_nil_of_le (by omega)
    have e2 : b.drop j = [] := List.drop_eq_nil_of_le (by omega)
    rw [e1, e2, evs_nil]; simp [stepsOf, mkE, oldS, newS, changed, ed_nil]
  | succ N ih =>
    intro i j p q h h1 h2
    by_cases hi : i < a.length <;> by_cases hj : j < b.length
    · have ha := List.drop_eq_getElem_cons hi
      have hb := List.drop_eq_getElem_cons hj
      have ta : (a.drop i).take 1 = [a[i]] := by rw [ha]; rfl
      have tb : (b.drop j).take 1 = [b[j]] := by rw [hb]; rfl
      by_cases e : a[i] = b[j]
      · obtain ⟨i1, i2, i3⟩ := ih (i + 1) (j + 1) (p + 1) (q + 1) (by omega) (by omega) (by omega)
        have : evs (a.drop i) (b.drop j) p q = (1, p, q) :: evs (a.drop (i + 1)) (b.drop (j + 1)) (p + 1) (q + 1) := by rw [ha, hb, e, evs_eq]
        have hE : ed (a.drop i) (b.drop j) = ed (a.drop (i + 1)) (b.drop (j + 1)) := by rw [ha, hb, e, ed_eq]
        rw [this]
        simp only [stepsOf, List.map_cons, mkE]
        rw [if_neg (by omega), if_pos (by first | trivial | rfl), ta]
        obtain ⟨c1, c2, c3⟩ := cons 1 [a[i]] (mkE a b (List.map (fun x => x.1) (evs (a.drop (i + 1)) (b.drop (j + 1)) (p + 1) (q + 1))) (i + 1) (j + 1))
        rw [c1, c2, c3, if_neg (by omega), if_neg (by omega), if_neg (by omega)]
        refine ⟨?_, ?_, ?_⟩
        · rw [ha]; exact congrArg _ i1
        · rw [hb, e]; exact congrArg _ i2
        · rw [hE, Nat.zero_add]; exact i3
      · by_cases h4 : ed (a.drop (i + 1)) (b[j] :: b.drop (j + 1)) < ed (a[i] :: a.drop (i + 1)) (b[j] :: b.drop (j + 1))
        · obtain ⟨i1, i2, i3⟩ := ih (i + 1) j (p + 1) q (by omega) (by omega) (by omega)
          have : evs (a.drop i) (b.drop j) p q = (2, p, q) :: evs (a.drop (i + 1)) (b.drop j) (p + 1) q := by rw [ha, hb, evs_out e h4]
          have hE : ed (a.drop i) (b.drop j) = 1 + ed (a.drop (i + 1)) (b.drop j) := by
            rw [ha, hb] at *
            have := ed_out a[i] (a.drop (i + 1)) (b[j] :: b.drop (j + 1))
            omega
          rw [this]
          simp only [stepsOf, List.map_cons, mkE]
          rw [if_neg (by omega), if_neg (by omega), ta]
          obtain ⟨c1, c2, c3⟩ := cons 2 [a[i]] (mkE a b (List.map (fun x => x.1) (evs (a.drop (i + 1)) (b.drop j) (p + 1) q)) (i + 1) j)
          rw [c1, c2, c3, if_neg (by omega), if_pos (by first | trivial | rfl), if_pos (by omega)]
          refine ⟨?_, ?_, ?_⟩
          · rw [ha]; exact congrArg _ i1
          · exact i2
          · rw [hE]; exact congrArg _ i3
        · obtain ⟨i1, i2, i3⟩ := ih i (j + 1) p (q + 1) (by omega) (by omega) (by omega)
          have : evs (a.drop i) (b.drop j) p q = (3, p, q) :: evs (a.drop i) (b.drop (j + 1)) p (q + 1) := by rw [ha, hb, evs_in e h4]
          have hE : ed (a.drop i) (b.drop j) = 1 + ed (a.drop i) (b.drop (j + 1)) := by
            have e3 := ed_ne e (a.drop (i + 1)) (b.drop (j + 1))
            rw [ha, hb]
            omega
          rw [this]
          simp only [stepsOf, List.map_cons, mkE]
          rw [if_pos (by first | trivial | rfl), tb]
          obtain ⟨c1, c2, c3⟩ := cons 3 [b[j]] (mkE a b (List.map (fun x => x.1) (evs (a.drop i) (b.drop (j + 1)) p (q + 1))) i (j + 1))
          rw [c1, c2, c3, if_pos (by first | trivial | rfl), if_neg (by omega), if_pos (by omega)]
          refine ⟨?_, ?_, ?_⟩
          · exact i1
          · rw [hb]; exact congrArg _ i2
          · rw [hE]; exact congrArg _ i3
    · have ha := List.drop_eq_getElem_cons hi
      have hb : b.drop j = [] := List.drop_eq_nil_of_le (by omega)
      have ta : (a.drop i).take 1 = [a[i]] := by rw [ha]; rfl
      obtain ⟨i1, i2, i3⟩ := ih (i + 1) j (p + 1) q (by omega) (by omega) (by omega)
      have : evs (a.drop i) (b.drop j) p q = (2, p, q) :: evs (a.drop (i + 1)) (b.drop j) (p + 1) q := by rw [ha, hb, evs_l]
      have hE : ed (a.drop i) (b.drop j) = 1 + ed (a.drop (i + 1)) (b.drop j) := by rw [ha, hb, ed_nil', ed_nil', List.length_cons]; omega
      rw [this]
      simp only [stepsOf, List.map_cons, mkE]
      rw [if_neg (by omega), if_neg (by omega), ta]
      obtain ⟨c1, c2, c3⟩ := cons 2 [a[i]] (mkE a b (List.map (fun x => x.1) (evs (a.drop (i + 1)) (b.drop j) (p + 1) q)) (i + 1) j)
      rw [c1, c2, c3, if_neg (by omega), if_pos (by first | trivial | rfl), if_pos (by omega)]
      refine ⟨?_, ?_, ?_⟩
      · rw [ha]; exact congrArg _ i1
      · exact i2
      · rw [hE]; exact congrArg _ i3
    · have hb := List.drop_eq_getElem_cons hj
      have ha : a.drop i = [] := List.drop_eq_nil_of_le (by omega)
      have tb : (b.drop j).take 1 = [b[j]] := by rw [hb]; rfl
      obtain ⟨i1, i2, i3⟩ := ih i (j + 1) p (q + 1) (by omega) (by omega) (by omega)
      have : evs (a.drop i) (b.drop j) p q = (3, p, q) :: evs (a.drop i) (b.drop (j + 1)) p (q + 1) := by rw [ha, hb, evs_r]
      have hE : ed (a.drop i) (b.drop j) = 1 + ed (a.drop i) (b.drop (j + 1)) := by rw [ha, hb, ed_nil, ed_nil, List.length_cons]; omega
      rw [this]
      simp only [stepsOf, List.map_cons, mkE]
      rw [if_pos (by first | trivial | rfl), tb]
      obtain ⟨c1, c2, c3⟩ := cons 3 [b[j]] (mkE a b (List.map (fun x => x.1) (evs (a.drop i) (b.drop (j + 1)) p (q + 1))) i (j + 1))
      rw [c1, c2, c3, if_pos (by first | trivial | rfl), if_neg (by omega), if_pos (by omega)]
      refine ⟨?_, ?_, ?_⟩
      · exact i1
      · rw [hb]; exact congrArg _ i2
      · rw [hE]; exact congrArg _ i3
    · have e1 : a.drop i = [] := List.drop_eq_nil_of_le (by omega)
      have e2 : b.drop j = [] := List.drop_eq_nil_of_le (by omega)
      rw [e1, e2, evs_nil]; simp [stepsOf, mkE, oldS, newS, changed, ed_nil]
/-- The made script. -/
theorem makeS_law {a b : List Line} (ha : a.length ≤ 400) (hb : b.length ≤ 400) : okS (makeS a b) ∧ oldS (makeS a b) = a ∧ newS (makeS a b) = b ∧ changed (makeS a b) = ed a b ∧ NE (makeS a b) := by
  have ok := makeE_ok ha hb
  obtain ⟨m1, m2, m3⟩ := mk_evs a b _ 0 0 0 0 (Nat.le_refl _) (Nat.zero_le _) (Nat.zero_le _)
  simp only [List.drop_zero] at m1 m2 m3
  obtain ⟨n1, n2, n3, n4, n5⟩ := normal_ok ok.dos
  have hl := NE_len n4
  have ht := ok.tot
  exact ⟨⟨by unfold makeS; omega, by unfold makeS; omega, fun x hx => (n4 x hx).2⟩, n1.trans m1, n2.trans m2, n3.trans m3, n4⟩
end Go.Proofs.Ytlofomkhiefbmaa
