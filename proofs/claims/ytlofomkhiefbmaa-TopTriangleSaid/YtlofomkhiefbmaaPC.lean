/- Plain: matches. -/
import Derived.Test.YtlofomkhiefbmaaPW
import Derived.Test.YtlofomkhiefbmaaPD
namespace Go.Proofs.Ytlofomkhiefbmaa
def findIx (f : Int × Int → Bool) (p : List (Int × Int)) : Int := match p.findIdx? f with | some k => (k : Int) | none => -1
theorem findIx_some {f : Int × Int → Bool} {p : List (Int × Int)} {k : Nat} {x : Int × Int} (hx : p[k]? = some x) (hq : f x = true) (h : ∀ y ∈ p.take k, f y = false) : findIx f p = (k : Int) := by
  have hk : k < p.length := (List.getElem?_eq_some_iff.1 hx).1
  have : p.findIdx? f = some k := by
    rw [List.findIdx?_eq_some_iff_getElem]
    refine ⟨hk, ?_, fun j hj => ?_⟩
    · have := (List.getElem?_eq_some_iff.1 hx).2; rw [this]; exact hq
    · have := h p[j] (by rw [List.mem_iff_getElem?]; exact ⟨j, by rw [List.getElem?_take_of_lt hj]; simp⟩)
      simp [this]
  simp [findIx, this]
theorem findIx_none {f : Int × Int → Bool} {p : List (Int × Int)} {k : Nat} (hk : p.length ≤ k) (h : ∀ y ∈ p.take k, f y = false) : findIx f p = -1 := by
  rw [List.take_of_length_le hk] at h
  have : p.findIdx? f = none := by rw [List.findIdx?_eq_none_iff]; exact h
  simp [findIx, this]
theorem findIx_lt (f : Int × Int → Bool) (p : List (Int × Int)) : findIx f p < p.length ∧ -1 ≤ findIx f p := by
  unfold findIx
  split
  · rename_i k h
    have := (List.findIdx?_eq_some_iff_getElem.1 h).1
    omega
  · omega
def toS (p : List (Int × Int)) (i : Int) : Option Int := (p.find? fun x => decide (x.1 = i)).map (·.2)
theorem toS_none {p : List (Int × Int)} {i : Int} (h : findIx (fun x => decide (x.1 = i)) p < 0) : toS p i = none := by
  unfold findIx at h
  split at h
  · omega
  · rename_i h'
    rw [List.findIdx?_eq_none_iff] at h'
    have : p.find? (fun x => decide (x.1 = i)) = none := by
      rw [List.find?_eq_none]
      intro x hx
      simpa using h' x hx
    simp [toS, this]
theorem toS_some {p : List (Int × Int)} {i : Int} {x : Int × Int} (h : ¬ findIx (fun x => decide (x.1 = i)) p < 0) (hx : p[(findIx (fun x => decide (x.1 = i)) p).toNat]? = some x) : toS p i = some x.2 := by
  unfold findIx at h hx
  split at h
  · rename_i k h'
    rw [h'] at hx
    simp only [Int.toNat_natCast] at hx
    obtain ⟨hk, h1, h2⟩ := List.findIdx?_eq_some_iff_getElem.1 h'
    have e : p[k] = x := by simpa [hk] using hx
    have : p.find? (fun x => decide (x.1 = i)) = some x := by
      rw [List.find?_eq_some_iff_getElem]
      exact ⟨by rw [← e]; exact h1, k, hk, e, fun j hj => by simpa using h2 j hj⟩
    simp [toS, this]
  · omega
def compS (p q : List (Int × Int)) : List (Int × Int) := p.filterMap fun x => (toS q x.2).map fun k => (x.1, k)
theorem compS_yes {p q : List (Int × Int)} {k : Nat} {x : Int × Int} (hx : p[k]? = some x) (h : (toS q x.2).isSome = true) : compS (p.take (k + 1)) q = compS (p.take k) q ++ [(x.1, (toS q x.2).getD 0)] := by
  obtain ⟨y, hy⟩ := Option.isSome_iff_exists.1 h
  rw [take_snoc hx]
  simp [compS, hy]
theorem compS_no {p q : List (Int × Int)} {k : Nat} {x : Int × Int} (hx : p[k]? = some x) (h : (toS q x.2).isSome = false) : compS (p.take (k + 1)) q = compS (p.take k) q := by
  have hy : toS q x.2 = none := by simpa using h
  rw [take_snoc hx]
  simp [compS, hy]
theorem compS_len (p q : List (Int × Int)) : (compS p q).length ≤ p.length := List.length_filterMap_le _ _
/-- A match of so many places with so many. -/
structure okP (p : List (Int × Int)) (n m : Int) : Prop where
  low : ∀ x ∈ p, 0 ≤ x.1 ∧ 0 ≤ x.2
  high : ∀ x ∈ p, x.1 < n ∧ x.2 < m
  asc : p.Pairwise fun x y => x.1 < y.1 ∧ x.2 < y.2
theorem okP.next {p : List (Int × Int)} {n m : Int} (h : okP p n m) {k : Nat} {x : Int × Int} (hx : p[k]? = some x) : ∀ y, p[k + 1]? = some y → x.1 < y.1 ∧ x.2 < y.2 := by
  intro y hy
  obtain ⟨h1, e1⟩ := List.getElem?_eq_some_iff.1 hx
  obtain ⟨h2, e2⟩ := List.getElem?_eq_some_iff.1 hy
  have := List.pairwise_iff_getElem.1 h.asc k (k + 1) h1 h2 (by omega)
  rwa [e1, e2] at this
end Go.Proofs.Ytlofomkhiefbmaa
