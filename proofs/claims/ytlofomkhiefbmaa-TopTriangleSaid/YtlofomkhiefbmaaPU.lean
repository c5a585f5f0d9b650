/- Plain: pairs that are kept, matches, two matches one behind the other. -/
import Derived.Test.YtlofomkhiefbmaaPT
namespace Go.Proofs.Ytlofomkhiefbmaa
/-- A match of places of two rows (from i and j on), like by like. -/
structure Mt {α : Type} (a b : List α) (i j : Int) (r : List (Int × Int)) : Prop where
  mem : ∀ x ∈ r, i ≤ x.1 ∧ x.1 < i + a.length ∧ j ≤ x.2 ∧ x.2 < j + b.length ∧ a[(x.1 - i).toNat]? = b[(x.2 - j).toNat]?
  asc : r.Pairwise fun x y => x.1 < y.1 ∧ x.2 < y.2
theorem Mt.nil {α : Type} (a b : List α) (i j : Int) : Mt a b i j [] := ⟨fun x hx => (by cases hx), List.Pairwise.nil⟩
theorem Mt.consL {α : Type} {a b : List α} {i j : Int} {r : List (Int × Int)} (x : α) (h : Mt a b (i + 1) j r) : Mt (x :: a) b i j r := by
  refine ⟨fun z hz => ?_, h.asc⟩
  obtain ⟨h1, h2, h3, h4, h5⟩ := h.mem z hz
  refine ⟨by omega, by simp; omega, h3, h4, ?_⟩
  rw [show (z.1 - i).toNat = (z.1 - (i + 1)).toNat + 1 by omega, List.getElem?_cons_succ]; exact h5
theorem Mt.consR {α : Type} {a b : List α} {i j : Int} {r : List (Int × Int)} (y : α) (h : Mt a b i (j + 1) r) : Mt a (y :: b) i j r := by
  refine ⟨fun z hz => ?_, h.asc⟩
  obtain ⟨h1, h2, h3, h4, h5⟩ := h.mem z hz
  refine ⟨h1, h2, by omega, by simp; omega, ?_⟩
  rw [show (z.2 - j).toNat = (z.2 - (j + 1)).toNat + 1 by omega, List.getElem?_cons_succ]; exact h5
theorem Mt.keep {α : Type} {a b : List α} {i j : Int} {r : List (Int × Int)} (x : α) (h : Mt a b (i + 1) (j + 1) r) : Mt (x :: a) (x :: b) i j ((i, j) :: r) := by
  refine ⟨fun z hz => ?_, List.Pairwise.cons (fun z hz => ?_) h.asc⟩
  · rcases List.mem_cons.1 hz with rfl | hz
    · refine ⟨Int.le_refl _, by simp; omega, Int.le_refl _, by simp; omega, by simp⟩
    · obtain ⟨h1, h2, h3, h4, h5⟩ := h.mem z hz
      refine ⟨by omega, by simp; omega, by omega, by simp; omega, ?_⟩
      rw [show (z.1 - i).toNat = (z.1 - (i + 1)).toNat + 1 by omega, show (z.2 - j).toNat = (z.2 - (j + 1)).toNat + 1 by omega, List.getElem?_cons_succ, List.getElem?_cons_succ]; exact h5
  · obtain ⟨h1, h2, h3, h4, h5⟩ := h.mem z hz
    exact ⟨by simp only; omega, by simp only; omega⟩
section
variable {α : Type} [DecidableEq α]
theorem pairsOf_1 (i j : Int) (l : List (Int × Int × Int)) : pairsOf ((1, i, j) :: l) = (i, j) :: pairsOf l := by simp [pairsOf]
theorem pairsOf_2 (i j : Int) (l : List (Int × Int × Int)) : pairsOf ((2, i, j) :: l) = pairsOf l := by simp [pairsOf]
theorem pairsOf_3 (i j : Int) (l : List (Int × Int × Int)) : pairsOf ((3, i, j) :: l) = pairsOf l := by simp [pairsOf]
theorem pairs_law (a b : List α) (i j : Int) : Mt a b i j (pairsOf (evs a b i j)) ∧ 2 * (pairsOf (evs a b i j)).length + ed a b = a.length + b.length := by
  fun_induction evs a b i j with
  | case1 i j => exact ⟨Mt.nil _ _ _ _, by simp [pairsOf, ed_nil]⟩
  | case2 y b i j ih =>
    rw [pairsOf_3]
    refine ⟨ih.1.consR y, ?_⟩
    have := ih.2
    rw [ed_nil] at this
    rw [ed_nil]; simp at this ⊢; omega
  | case3 x a i j ih =>
    rw [pairsOf_2]
    refine ⟨ih.1.consL x, ?_⟩
    have := ih.2
    rw [ed_nil'] at this
    rw [ed_nil']; simp at this ⊢; omega
  | case4 a y b i j ih =>
    rw [pairsOf_1]
    refine ⟨ih.1.keep y, ?_⟩
    have := ih.2
    rw [ed_eq]; simp; omega
  | case5 x a y b i j hne hlt ih =>
    rw [pairsOf_2]
    refine ⟨ih.1.consL x, ?_⟩
    have := ih.2
    have h2 := ed_out x a (y :: b)
    simp at this ⊢; omega
  | case6 x a y b i j hne hlt ih =>
    rw [pairsOf_3]
    refine ⟨ih.1.consR y, ?_⟩
    have := ih.2
    have h2 := ed_ne hne a b
    simp at this ⊢; omega
theorem Al.outs' {β : Type} (l : List β) {a b : List β} {n : Nat} (h : Al a b n) : Al (l ++ a) b (n + l.length) := by
  induction l with
  | nil => exact h
  | cons x l ih => have := Al.out x ih; rwa [show n + l.length + 1 = n + (x :: l).length by simp; omega] at this
theorem Al.ins' {β : Type} (l : List β) {a b : List β} {n : Nat} (h : Al a b n) : Al a (l ++ b) (n + l.length) := by
  induction l with
  | nil => exact h
  | cons x l ih => have := Al.in_ x ih; rwa [show n + l.length + 1 = n + (x :: l).length by simp; omega] at this
theorem Mt.al {β : Type} {r : List (Int × Int)} : ∀ {a b : List β} {i j : Int}, Mt a b i j r → ∃ n, Al a b n ∧ n + 2 * r.length = a.length + b.length := by
  induction r with
  | nil =>
    intro a b i j _
    have h1 := Al.ins' b (Al.outs a)
    rw [List.append_nil] at h1
    exact ⟨_, h1, by simp⟩
  | cons z r ih =>
    intro a b i j h
    obtain ⟨h1, h2, h3, h4, h5⟩ := h.mem z (by simp)
    have hp : (z.1 - i).toNat < a.length := by omega
    have hq : (z.2 - j).toNat < b.length := by omega
    have h' : Mt (a.drop ((z.1 - i).toNat + 1)) (b.drop ((z.2 - j).toNat + 1)) (z.1 + 1) (z.2 + 1) r := by
      refine ⟨fun y hy => ?_, (List.pairwise_cons.1 h.asc).2⟩
      obtain ⟨k1, k2, k3, k4, k5⟩ := h.mem y (by simp [hy])
      obtain ⟨m1, m2⟩ := (List.pairwise_cons.1 h.asc).1 y hy
      refine ⟨by omega, by simp; omega, by omega, by simp; omega, ?_⟩
      rw [List.getElem?_drop, List.getElem?_drop, show (z.1 - i).toNat + 1 + (y.1 - (z.1 + 1)).toNat = (y.1 - i).toNat by omega, show (z.2 - j).toNat + 1 + (y.2 - (z.2 + 1)).toNat = (y.2 - j).toNat by omega]
      exact k5
    obtain ⟨n, hal, hn⟩ := ih h'
    rw [List.getElem?_eq_getElem hp, List.getElem?_eq_getElem hq] at h5
    have he : a[(z.1 - i).toNat] = b[(z.2 - j).toNat] := by simpa using h5
    have hk := Al.keep a[(z.1 - i).toNat] hal
    have ha : a = a.take (z.1 - i).toNat ++ a[(z.1 - i).toNat] :: a.drop ((z.1 - i).toNat + 1) := by rw [← List.drop_eq_getElem_cons hp, List.take_append_drop]
    have hb : b = b.take (z.2 - j).toNat ++ a[(z.1 - i).toNat] :: b.drop ((z.2 - j).toNat + 1) := by rw [he, ← List.drop_eq_getElem_cons hq, List.take_append_drop]
    have hfin := Al.ins' (b.take (z.2 - j).toNat) (Al.outs' (a.take (z.1 - i).toNat) hk)
    rw [← ha, ← hb] at hfin
    refine ⟨_, hfin, ?_⟩
    simp at hn ⊢
    omega
theorem Mt.le {r : List (Int × Int)} {a b : List α} {i j : Int} (h : Mt a b i j r) : ed a b + 2 * r.length ≤ a.length + b.length := by
  obtain ⟨n, h1, h2⟩ := h.al
  have := h1.ge
  omega
theorem toS_mem {q : List (Int × Int)} {i k : Int} (h : toS q i = some k) : (i, k) ∈ q := by
  unfold toS at h
  cases hf : q.find? (fun x => decide (x.1 = i)) with
  | none => rw [hf] at h; cases h
  | some x =>
    rw [hf] at h
    have h1 := List.mem_of_find?_eq_some hf
    have h2 := List.find?_some hf
    simp at h h2
    rw [← h, ← h2]
    exact h1
theorem asc_mem {q : List (Int × Int)} (h : q.Pairwise fun x y => x.1 < y.1 ∧ x.2 < y.2) {x y : Int × Int} (hx : x ∈ q) (hy : y ∈ q) (hl : x.1 < y.1) : x.2 < y.2 := by
  induction h with
  | nil => cases hx
  | cons h1 h2 ih =>
    rcases List.mem_cons.1 hx with ex | hx' <;> rcases List.mem_cons.1 hy with ey | hy'
    · rw [ex, ey] at hl; omega
    · rw [ex]; exact (h1 y hy').2
    · rw [ey] at hl; have := (h1 x hx').1; omega
    · exact ih hx' hy'
theorem comp_mem {p q : List (Int × Int)} {z : Int × Int} (h : z ∈ compS p q) : ∃ x ∈ p, z.1 = x.1 ∧ (x.2, z.2) ∈ q := by
  unfold compS at h
  obtain ⟨x, hx, hz⟩ := List.mem_filterMap.1 h
  cases ht : toS q x.2 with
  | none => rw [ht] at hz; cases hz
  | some k =>
    rw [ht] at hz
    simp at hz
    subst hz
    exact ⟨x, hx, rfl, toS_mem ht⟩
theorem comp_asc {p q : List (Int × Int)} (hp : p.Pairwise fun x y => x.1 < y.1 ∧ x.2 < y.2) (hq : q.Pairwise fun x y => x.1 < y.1 ∧ x.2 < y.2) : (compS p q).Pairwise fun x y => x.1 < y.1 ∧ x.2 < y.2 := by
  unfold compS
  rw [List.pairwise_filterMap]
  refine hp.imp fun {x y} hxy z hz w hw => ?_
  cases h1 : toS q x.2 with
  | none => rw [h1] at hz; cases hz
  | some k =>
    cases h2 : toS q y.2 with
    | none => rw [h2] at hw; cases hw
    | some k' =>
      rw [h1] at hz
      rw [h2] at hw
      simp at hz hw
      subst hz hw
      exact ⟨hxy.1, asc_mem (x := (x.2, k)) (y := (y.2, k')) hq (toS_mem h1) (toS_mem h2) hxy.2⟩
theorem Mt.comp {β : Type} {a b c : List β} {p q : List (Int × Int)} (hp : Mt a b 0 0 p) (hq : Mt b c 0 0 q) : Mt a c 0 0 (compS p q) := by
  refine ⟨fun z hz => ?_, comp_asc hp.asc hq.asc⟩
  obtain ⟨x, hx, e, hk⟩ := comp_mem hz
  obtain ⟨h1, h2, h3, h4, h5⟩ := hp.mem x hx
  obtain ⟨k1, k2, k3, k4, k5⟩ := hq.mem _ hk
  simp only at k1 k2 k3 k4 k5
  exact ⟨by omega, by omega, k3, k4, by rw [e, h5, k5]⟩
theorem Mt.okP {β : Type} {a b : List β} {p : List (Int × Int)} (hp : Mt a b 0 0 p) : okP p a.length b.length :=
  ⟨fun x hx => by have := hp.mem x hx; omega, fun x hx => by have := hp.mem x hx; omega, hp.asc⟩
/-- The way over a third row is no shorter. -/
theorem triangle (a b c : List α) : ed a c ≤ ed a b + ed b c ∧ Mt a c 0 0 (compS (pairsOf (evs a b 0 0)) (pairsOf (evs b c 0 0))) ∧ (compS (pairsOf (evs a b 0 0)) (pairsOf (evs b c 0 0))).length ≤ (pairsOf (evs a c 0 0)).length ∧
    ed a c + 2 * (compS (pairsOf (evs a b 0 0)) (pairsOf (evs b c 0 0))).length ≤ a.length + c.length := by
  have h1 := (pairs_law a b 0 0).1
  have h2 := (pairs_law b c 0 0).1
  have h3 := h1.comp h2
  have h4 := h3.le
  have h5 := (pairs_law a c 0 0).2
  exact ⟨ed_tri a b c, h3, by omega, h4⟩
end
end Go.Proofs.Ytlofomkhiefbmaa
