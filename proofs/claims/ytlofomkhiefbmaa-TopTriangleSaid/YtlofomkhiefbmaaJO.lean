/- Arguments opened as rows over the ghost that holds the whole world; read again behind the call. -/
import Derived.Test.YtlofomkhiefbmaaJG
import Derived.Test.YtlofomkhiefbmaaRows
import Derived.ProofKit
import Derived.Deep.Slices
import Derived.ShutString
import Derived.ChangeOld
import Derived.SizedLaws
set_option linter.unusedVariables false
namespace Go.Proofs.Ytlofomkhiefbmaa
open Go.ChangeShapes Go.WideShapes Go.ChangeAt Go.RowKit Go.Deep
/-- All that a world holds. -/
def allC (w : World) : Gh := fun b o => w.cell? ⟨b, o, none⟩
theorem has_all (w : World) : Has w (allC w) := fun _ _ _ h => h
section
variable {H : Type} {enc : TypeId × Value → H} {P : Program} {w : World} {base : Nat} {spare : Nat → Bool} {held : Bool}
theorem seg_all {a : Addr} {n : Nat} {cs : List Value} (hn : 0 < n) (h : w.cells? base a n = some cs) : ∃ g o, a = ⟨g, o, none⟩ ∧ cs.length = n ∧ Seg (allC w) g o cs := by
  obtain ⟨_, hl, hc⟩ := World.cells?_some h
  obtain ⟨g, o, s⟩ := a
  have h0 := hc 0 hn
  rw [List.getElem?_eq_getElem (by omega)] at h0
  have hs : s = none := by simpa [Addr.add] using World.cell?_spot h0
  subst hs
  refine ⟨g, o, rfl, hl, fun i v hv => ?_⟩
  have hi : i < n := by have := (List.getElem?_eq_some_iff.1 hv).1; omega
  have := hc i hi
  rw [add_lit] at this
  simp only [allC, this]
  exact hv
/-- A slice of whatever elements, opened: what its elements are is read off each element's cells. -/
theorem open_sl {α : Type} [Inhabited α] (K : Kd α) {t e : TypeId} {fuel : Nat} {A : Option Addr} {len cap : Nat} {x : DataW H × List MemPlace} (ht : P.underlying t = some (.slice e)) (hsz : P.cellsOf e = K.sz) (hpos : 0 < K.sz)
    (hel : ∀ (n : Nat) (cs : List Value) (y : DataW H × List MemPlace), cs.length = K.sz → DataW.trod enc P w base spare held n e cs = some y → ∃ q, K.R (allC w) q cs)
    (hbd : len ≤ 140737488355328) (h : DataW.trod enc P w base spare held fuel t [.slice A len cap] = some x) : ∃ xs : List α, xs.length = len ∧ Sl K (allC w) A cap xs := by
  rcases open_slice ht h with ⟨h0, _⟩ | ⟨a, len', cap', m, n, D, Pl, hcs, hb, hl, hm, hmm, _, hx⟩
  · simp only [List.cons.injEq, Value.slice.injEq, and_true] at h0
    obtain ⟨rfl, rfl, rfl⟩ := h0
    exact ⟨[], rfl, Sl.nil _ _ _ _⟩
  · simp only [List.cons.injEq, Value.slice.injEq, and_true] at hcs
    obtain ⟨rfl, rfl, rfl⟩ := hcs
    have hlm : len ≤ m := by rw [hmm]; split <;> omega
    have each : ∀ i, i < len → ∃ q : α, ∃ cs, K.R (allC w) q cs ∧ CellsG (allC w) (some a) (i * K.sz) cs := by
      intro i hi
      obtain ⟨c0, k1, _⟩ := hx 0 (by omega)
      rw [hsz, Nat.zero_mul] at k1
      obtain ⟨g0, o0, ha0, _, _⟩ := seg_all hpos k1
      simp only [Addr.add, if_true] at ha0
      subst ha0
      obtain ⟨cs', h1, h2⟩ := hx i (by omega)
      rw [hsz] at h1
      obtain ⟨g, o, ha, hcl, hsg⟩ := seg_all hpos h1
      obtain ⟨q, hq⟩ := hel _ _ _ hcl h2
      rw [add_lit] at ha
      cases ha
      exact ⟨q, cs', hq, g0, o0, rfl, hsg⟩
    obtain ⟨f, hf⟩ := choose_lt each
    refine ⟨(List.range len).map f, by simp, by simpa using hl, by simpa using hbd, fun j y hj => ?_⟩
    have hjl : j < len := by have := (List.getElem?_eq_some_iff.1 hj).1; simpa using this
    have : y = f j := by simpa [hjl] using hj.symm
    subst this
    exact hf j hjl
end
theorem el_line {H : Type} {enc : TypeId × Value → H} {P : Program} {w : World} {base : Nat} {spare : Nat → Bool} {held : Bool} {e : TypeId} {f0 f1 : Field} (hu : P.underlying e = some (.struct #[f0, f1])) (u0 : P.underlying f0.type = some .string) (u1 : P.underlying f1.type = some .bool) (o0 : P.cellsOf f0.type = 1) (o1 : P.cellsOf f1.type = 1) (of0 : f0.offset = 0) (of1 : f1.offset = 1)
    (n : Nat) (cs : List Value) (y : DataW H × List MemPlace) (hl : cs.length = kLine.sz) (h : DataW.trod enc P w base spare held n e cs = some y) : ∃ q, kLine.R (allC w) q cs := by
  obtain ⟨y0, y1, k, hxy, _, h0, h1⟩ := trod_struct2 hu h
  match cs, hl with
  | [v0, v1], _ =>
    rw [o0, of0] at h0
    rw [o1, of1] at h1
    simp only [List.drop, List.take] at h0 h1
    obtain ⟨s, e0, _⟩ := DataW.trod_string u0 h0
    obtain ⟨b, e1, _⟩ := DataW.trod_bool u1 h1
    simp only [List.cons.injEq, and_true] at e0 e1
    subst e0 e1
    exact ⟨⟨s, b⟩, rfl⟩
end Go.Proofs.Ytlofomkhiefbmaa
