/- The row that a script grows in. -/
import Derived.Test.YtlofomkhiefbmaaJH
set_option linter.unusedVariables false
namespace Go.Proofs.Ytlofomkhiefbmaa
open Go.RowKit
def rAdd (s : List Edit) (d : Int) (l : List Line) : List Edit :=
  if l = [] then s else match s.getLast? with
    | some x => if x.do_ = d then s.dropLast ++ [⟨d, x.lines ++ l⟩] else s ++ [⟨d, l⟩]
    | none => [⟨d, l⟩]
theorem rAdd_nil (s : List Edit) (d : Int) : rAdd s d [] = s := by simp [rAdd]
theorem rAdd_zero {d : Int} {l : List Line} (h : l ≠ []) : rAdd [] d l = [⟨d, l⟩] := by simp [rAdd, h]
theorem rAdd_same {s : List Edit} {x : Edit} {d : Int} {l : List Line} (h : l ≠ []) (hd : x.do_ = d) : rAdd (s ++ [x]) d l = s ++ [⟨d, x.lines ++ l⟩] := by simp [rAdd, h, hd]
theorem rAdd_new {s : List Edit} {x : Edit} {d : Int} {l : List Line} (h : l ≠ []) (hd : ¬ x.do_ = d) : rAdd (s ++ [x]) d l = (s ++ [x]) ++ [⟨d, l⟩] := by simp [rAdd, h, hd]
/-- A script's row: what was laid, and what waits. -/
inductive RowSt (TR TE TL B : Nat) (w : World) (C : Gh) (g : Nat) (s : List Edit) (wt : List Line) : Prop where
  | nil {Aw : Option Addr} {cw : Nat} (hs : s = []) (hg : B ≤ g) (hst : St w C g [.slice none ([] : List (List Value)).length 0, .slice Aw wt.length cw] TR) (hw : Sl kLine C Aw cw wt) (how : Own B TL 2 w C Aw wt.length cw) : RowSt TR TE TL B w C g s wt
  | snoc {As Aw A : Option Addr} {cs cw c : Nat} {rows0 : List (List Value)} {s0 : List Edit} {x : Edit} (hs : s = s0 ++ [x]) (hg : B ≤ g) (hst : St w C g [.slice As (rows0 ++ [[Value.int .i64 x.do_, Value.slice A x.lines.length c]]).length cs, .slice Aw wt.length cw] TR)
      (hm : MRow B TE 2 w C As cs (rows0 ++ [[Value.int .i64 x.do_, Value.slice A x.lines.length c]])) (hr0 : RowR kEdit C s0 rows0.flatten) (hl0 : rows0.length = s0.length) (hx : Sl kLine C A c x.lines) (hox : Own B TL 2 w C A x.lines.length c)
      (hw : Sl kLine C Aw cw wt) (how : Own B TL 2 w C Aw wt.length cw) (hn : Nb2 A x.lines.length c Aw wt.length cw) : RowSt TR TE TL B w C g s wt
theorem RowSt.call {TR TE TL B : Nat} {w w' : World} {C C' : Gh} {g : Nat} {s : List Edit} {wt : List Line} (h : RowSt TR TE TL B w C g s wt) (e : Ext w.heap.size w C w' C') : RowSt TR TE TL B w' C' g s wt := by
  cases h with
  | nil hs hg hst hw how => exact .nil hs hg (hst.call e) (hw.mono e.le) (how.call e)
  | snoc hs hg hst hm hr0 hl0 hx hox hw how hn => exact .snoc hs hg (hst.call e) (hm.call e) (hr0.mono e.le) hl0 (hx.mono e.le) (hox.call e) (hw.mono e.le) (how.call e) hn
theorem RowSt.lt {TR TE TL B : Nat} {w : World} {C : Gh} {g : Nat} {s : List Edit} {wt : List Line} (h : RowSt TR TE TL B w C g s wt) : B ≤ g ∧ g < w.heap.size := by
  cases h with
  | nil hs hg hst hw how => exact ⟨hg, hst.lt⟩
  | snoc hs hg hst hm hr0 hl0 hx hox hw how hn => exact ⟨hg, hst.lt⟩
theorem rowR_snoc {C : Gh} {s0 : List Edit} {rows0 : List (List Value)} {x : Edit} {A : Option Addr} {c : Nat} (h : RowR kEdit C s0 rows0.flatten) (hx : Sl kLine C A c x.lines) : RowR kEdit C (s0 ++ [x]) (rows0 ++ [[Value.int .i64 x.do_, Value.slice A x.lines.length c]]).flatten := by
  rw [List.flatten_append]
  refine h.app ?_
  have : RowR kEdit C [x] ([Value.int .i64 x.do_, Value.slice A x.lines.length c] ++ []) := .cons ⟨A, c, rfl, hx⟩ .nil
  simpa using this
theorem RowSt.drew {TR TE TL B : Nat} {w : World} {C : Gh} {g : Nat} {s : List Edit} {wt : List Line} (h : RowSt TR TE TL B w C g s wt) : RowSt TR TE TL B w.drew C g s wt := by
  cases h with
  | nil hs hg hst hw how => exact .nil hs hg hst.drew hw how.drew
  | snoc hs hg hst hm hr0 hl0 hx hox hw how hn => exact .snoc hs hg hst.drew hm.drew hr0 hl0 hx hox.drew hw how.drew hn
theorem total_app (s t : List Edit) : total (s ++ t) = total s + total t := by simp [total]
theorem rAdd_total (s : List Edit) (d : Int) (l : List Line) : total (rAdd s d l) = total s + l.length := by
  by_cases hl : l = []
  · subst hl; simp [rAdd]
  · rcases List.eq_nil_or_concat s with rfl | ⟨s0, x, rfl⟩
    · rw [rAdd_zero hl]; simp [total]
    · rw [List.concat_eq_append]
      by_cases hd : x.do_ = d
      · rw [rAdd_same hl hd, total_app, total_app]; simp [total]; omega
      · rw [rAdd_new hl hd, total_app]; simp [total]
theorem rAdd_len (s : List Edit) (d : Int) (l : List Line) : (rAdd s d l).length ≤ s.length + 1 := by
  by_cases hl : l = []
  · subst hl; simp [rAdd]
  · rcases List.eq_nil_or_concat s with rfl | ⟨s0, x, rfl⟩
    · rw [rAdd_zero hl]; simp
    · rw [List.concat_eq_append]
      by_cases hd : x.do_ = d
      · rw [rAdd_same hl hd]; simp
      · rw [rAdd_new hl hd]; simp
/-- One edit taken: the script that was laid, and what waits. -/
def rTake (p : List Edit × List Line) (x : Edit) : List Edit × List Line :=
  if x.do_ = 3 then (p.1, p.2 ++ x.lines)
  else if x.do_ = 1 ∧ x.lines ≠ [] then (rAdd (rAdd p.1 3 p.2) 1 x.lines, [])
  else (rAdd p.1 x.do_ x.lines, p.2)
theorem rTake_in {p : List Edit × List Line} {x : Edit} (h : x.do_ = 3) : rTake p x = (p.1, p.2 ++ x.lines) := if_pos h
theorem rTake_keep {p : List Edit × List Line} {x : Edit} (h : x.do_ = 1) (hl : 0 < x.lines.length) : rTake p x = (rAdd (rAdd p.1 3 p.2) x.do_ x.lines, []) := by
  have : x.lines ≠ [] := fun e => by simp [e] at hl
  simp [rTake, h, this]
theorem rTake_else {p : List Edit × List Line} {x : Edit} (h : x.do_ ≠ 3) (hl : ¬ (x.do_ = 1 ∧ 0 < x.lines.length)) : rTake p x = (rAdd p.1 x.do_ x.lines, p.2) := by
  have : ¬ (x.do_ = 1 ∧ x.lines ≠ []) := fun ⟨h1, h2⟩ => hl ⟨h1, List.length_pos_iff.2 h2⟩
  simp only [rTake, if_neg h, if_neg this]
theorem rTake_total (p : List Edit × List Line) (x : Edit) : total (rTake p x).1 + (rTake p x).2.length = total p.1 + p.2.length + x.lines.length := by
  unfold rTake
  split
  · simp; omega
  · split
    · simp [rAdd_total]
    · simp [rAdd_total]; omega
theorem rTake_len (p : List Edit × List Line) (x : Edit) : (rTake p x).1.length ≤ p.1.length + 2 := by
  unfold rTake
  split
  · simp
  · split
    · have h1 := rAdd_len (rAdd p.1 3 p.2) 1 x.lines
      have h2 := rAdd_len p.1 3 p.2
      simp only; omega
    · have h1 := rAdd_len p.1 x.do_ x.lines
      simp only; omega
theorem foldl_take {α β : Type} {f : β → α → β} {a : β} {s : List α} {k : Nat} {x : α} (h : s[k]? = some x) : (s.take (k + 1)).foldl f a = f ((s.take k).foldl f a) x := by
  rw [take_snoc h, List.foldl_append]; rfl
theorem foldT_total (s : List Edit) : ∀ p, total (s.foldl rTake p).1 + (s.foldl rTake p).2.length = total p.1 + p.2.length + total s := by
  induction s with
  | nil => simp [total]
  | cons x s ih =>
    intro p
    have h1 := rTake_total p x
    have h2 : total (x :: s) = x.lines.length + total s := by simp [total]
    rw [List.foldl_cons, ih, h2]; omega
theorem foldT_len (s : List Edit) : ∀ p, (s.foldl rTake p).1.length ≤ p.1.length + 2 * s.length := by
  induction s with
  | nil => simp
  | cons x s ih =>
    intro p
    have h1 := rTake_len p x
    have h2 := ih (rTake p x)
    rw [List.foldl_cons, List.length_cons]; omega
theorem foldTake_total (s : List Edit) (k : Nat) : total ((s.take k).foldl rTake ([], [])).1 + ((s.take k).foldl rTake ([], [])).2.length = total (s.take k) := by
  have := foldT_total (s.take k) ([], [])
  simpa [total] using this
theorem foldTake_len (s : List Edit) (k : Nat) : ((s.take k).foldl rTake ([], [])).1.length ≤ 2 * (s.take k).length := by
  have := foldT_len (s.take k) ([], [])
  simpa using this
def normalS (s : List Edit) : List Edit := let p := s.foldl rTake ([], []); rAdd p.1 3 p.2
theorem normalS_len0 (s : List Edit) : (normalS s).length ≤ 2 * s.length + 1 := by
  have h1 := foldT_len s ([], [])
  have h2 := rAdd_len (s.foldl rTake ([], [])).1 3 (s.foldl rTake ([], [])).2
  simp only [normalS]
  simp at h1
  omega
theorem normalS_len (s : List Edit) : (normalS s).length ≤ 2 * s.length + 1 := normalS_len0 s
end Go.Proofs.Ytlofomkhiefbmaa
