/- State blocks, new blocks, stores, appends over the ghost heap. -/
import Derived.Test.YtlofomkhiefbmaaJC
import Derived.ArgAppend
import Derived.Laws.CopyRow
import Derived.Laws.IdiomCopy
set_option linter.unusedVariables false
namespace Go.Proofs.Ytlofomkhiefbmaa
open Go.RowKit

/-- A block that is a state: its cells are known, none is committed. -/
structure St (w : World) (C : Gh) (g : Nat) (cs : List Value) (t : TypeId) : Prop where
  blk : w.heap[g]? = some (.cells cs.toArray t (0, 0))
  un : ∀ o, C g o = none
theorem blk_lt' {w : World} {g : Nat} {o : Obj} (h : w.heap[g]? = some o) : g < w.heap.size := (Array.getElem?_eq_some_iff.1 h).1
theorem St.lt {w : World} {C : Gh} {g : Nat} {cs : List Value} {t : TypeId} (h : St w C g cs t) : g < w.heap.size := blk_lt' h.blk
theorem St.ext {B : Nat} {w w' : World} {C C' : Gh} {g : Nat} {cs : List Value} {t : TypeId} (h : St w C g cs t) (e : Ext B w C w' C') (hg : g < B) : St w' C' g cs t :=
  ⟨(e.below.block g hg).trans h.blk, fun o => (e.old g o hg).trans (h.un o)⟩
theorem St.call {w w' : World} {C C' : Gh} {g : Nat} {cs : List Value} {t : TypeId} (h : St w C g cs t) (e : Ext w.heap.size w C w' C') : St w' C' g cs t := h.ext e h.lt
theorem St.drew {w : World} {C : Gh} {g : Nat} {cs : List Value} {t : TypeId} (h : St w C g cs t) : St w.drew C g cs t := ⟨h.blk, h.un⟩
theorem St.cell {w : World} {C : Gh} {g : Nat} {cs : List Value} {t : TypeId} (h : St w C g cs t) {o : Nat} {v : Value} (hv : cs[o]? = some v) : w.cell? ⟨g, o, none⟩ = some v := by
  simp [World.cell?, h.blk, hv]
theorem St.cellB {w w' : World} {C : Gh} {g : Nat} {cs : List Value} {t : TypeId} (h : St w C g cs t) (hb : Below w.heap.size w w') {o : Nat} {v : Value} (hv : cs[o]? = some v) : w'.cell? ⟨g, o, none⟩ = some v := by
  rw [hb.cell (p := ⟨g, o, none⟩) h.lt]
  exact h.cell hv

/-- One old block alone may have turned. -/
structure Mut (g : Nat) (w : World) (C : Gh) (w' : World) (C' : Gh) : Prop where
  grown : w.grownBy w' (some g)
  has : Has w' C'
  le : Gle C C'
  old : ∀ k o, k < w.heap.size → k ≠ g → C' k o = C k o
theorem Mut.ext {B g : Nat} {w w' : World} {C C' : Gh} (m : Mut g w C w' C') (hB : B ≤ w.heap.size) (hg : B ≤ g) : Ext B w C w' C' :=
  ⟨⟨m.grown.os, m.grown.tape, m.grown.output, m.grown.size, fun k hk => m.grown.block k (by omega) (by simp; omega)⟩, m.has, m.le, fun k o hk => m.old k o (by omega) (by omega)⟩
theorem St.other {g g' : Nat} {w w' : World} {C C' : Gh} {cs : List Value} {t : TypeId} (h : St w C g cs t) (m : Mut g' w C w' C') (hne : g ≠ g') : St w' C' g cs t :=
  ⟨(m.grown.block g h.lt (by simp; exact hne)).trans h.blk, fun o => (m.old g o h.lt hne).trans (h.un o)⟩
theorem Mut.size {g : Nat} {w w' : World} {C C' : Gh} (m : Mut g w C w' C') : w.heap.size ≤ w'.heap.size := m.grown.size

/-! ### runs -/
section
variable {P : Program} {ρ : Operand → Value} {d : Option Tmp} {ty : TypeId} {pos : String} {af : Array Edge} {gd : Option (Nat × Bool)} {w : World}

theorem alloc_ext {w : World} {C : Gh} (hH : Has w C) (o : Obj) : Ext w.heap.size w C (w.alloc o) C := (Ext.refl hH).alloc (Nat.le_refl _) o
theorem alloc_st {w : World} {C : Gh} (hH : Has w C) (cs : List Value) (t : TypeId) : St (w.alloc (.cells cs.toArray t)) C w.heap.size cs t :=
  ⟨heap_alloc_new w _, fun o => hH.none o (Nat.le_refl _)⟩
theorem r_alloc {t : TypeId} {v : Value} (hz : ∀ w, (zeroValue t).run P w = .ok v w) : (execOp ρ ⟨d, .alloc t, ty, pos, af, gd⟩).run P w = .ok (.value (.pointer (some ⟨w.heap.size, 0, none⟩))) (w.alloc (.cells v.cells t)) := by
  simp [execOp, Instr.alloc, hz, newVar, newRow]
theorem r_box {t : TypeId} {x : Operand} {v : Value} (hx : ρ x = v) : (execOp ρ ⟨d, .box t x, ty, pos, af, gd⟩).run P w = .ok (.value (.pointer (some ⟨w.heap.size, 0, none⟩))) (w.alloc (.cells v.cells t)) := by
  simp [execOp, Instr.box, hx, newVar, newRow]
/-- A new variable: the new block is a state. -/
theorem new_alloc {t : TypeId} {v : Value} {cs : List Value} {C : Gh} (hz : ∀ w, (zeroValue t).run P w = .ok v w) (hcs : v.cells = cs.toArray) (hH : Has w C) :
    ∃ g w', (execOp ρ ⟨d, .alloc t, ty, pos, af, gd⟩).run P w = .ok (.value (.pointer (some ⟨g, 0, none⟩))) w' ∧ St w' C g cs t ∧ Ext w.heap.size w C w' C ∧ w.heap.size = g :=
  ⟨_, _, r_alloc hz, by rw [hcs]; exact alloc_st hH _ _, alloc_ext hH _, rfl⟩
theorem new_box {t : TypeId} {x : Operand} {v : Value} {cs : List Value} {C : Gh} (hx : ρ x = v) (hcs : v.cells = cs.toArray) (hH : Has w C) :
    ∃ g w', (execOp ρ ⟨d, .box t x, ty, pos, af, gd⟩).run P w = .ok (.value (.pointer (some ⟨g, 0, none⟩))) w' ∧ St w' C g cs t ∧ Ext w.heap.size w C w' C ∧ w.heap.size = g :=
  ⟨_, _, r_box hx, by rw [hcs]; exact alloc_st hH _ _, alloc_ext hH _, rfl⟩

/-! ### stores -/
theorem setRow_at {w : World} {g : Nat} {cur : Array Value} {t : TypeId} {fr : Nat × Nat} (h : w.heap[g]? = some (.cells cur t fr)) (cs : Array Value) : (w.setRow g cs).heap[g]? = some (.cells cs t fr) := by
  simp [World.setRow, Array.getElem?_modify, h]
theorem setRow_ne {w : World} {g k : Nat} (h : k ≠ g) (cs : Array Value) : (w.setRow g cs).heap[k]? = w.heap[k]? := by
  simp only [World.setRow, Array.getElem?_modify]
  rw [if_neg (fun e => h e.symm)]
theorem setRow_grown (w : World) (g : Nat) (cs : Array Value) : w.grownBy (w.setRow g cs) (some g) :=
  ⟨rfl, rfl, rfl, by simp [World.setRow], fun k _ hne => setRow_ne (fun e => hne (by rw [e])) cs⟩
theorem setRow_mut {w : World} {C : Gh} {g : Nat} {cs0 cs : List Value} {t : TypeId} (h : St w C g cs0 t) (hH : Has w C) : Mut g w C (w.setRow g cs.toArray) C ∧ St (w.setRow g cs.toArray) C g cs t := by
  refine ⟨⟨setRow_grown _ _ _, fun b o v e => ?_, Gle.refl _, fun _ _ _ _ => rfl⟩, ⟨setRow_at h.blk _, h.un⟩⟩
  by_cases hb : b = g
  · subst hb
    rw [h.un o] at e
    cases e
  · rw [World.cell?_of_block (w := w) (setRow_ne hb _)]
    exact hH b o v e
/-- The cells of a state behind a store from place o on. -/
def putAt (cs : List Value) (o : Nat) (vs : List Value) : List Value := cs.take o ++ vs ++ cs.drop (o + vs.length)
theorem r_storeSt {t ts : TypeId} {x p : Operand} {C : Gh} {g o n : Nat} {cs vs : List Value} {v : Value} (hs : ∀ w, (sizeOf t).run P w = .ok n w) (hn : vs.length = n) (hst : St w C g cs ts) (hH : Has w C)
    (hp : ρ p = .pointer (some ⟨g, o, none⟩)) (hx : ρ x = v) (hv : v.cells = vs.toArray) (h1 : (vs.all fun u => u.oneCell') = true) (hl : o + vs.length ≤ cs.length) :
    ∃ w', (execOp ρ ⟨d, .store t p x, ty, pos, af, gd⟩).run P w = .ok .skip w' ∧ Mut g w C w' C ∧ St w' C g (putAt cs o vs) ts := by
  have h1' : ∀ u ∈ vs, u.oneCell' = true := by simpa using h1
  have hrun := run_storeCells_at P g o ts vs 0 cs.toArray w hst.blk (by simpa using hl) h1'
  refine ⟨w.setRow g (putAt cs o vs).toArray, ?_, setRow_mut hst hH⟩
  have hv' : v.cells.toList = vs := by rw [hv]
  have hsz : v.cells.size = n := by rw [hv]; simpa using hn
  simp only [execOp, Instr.storeAt, Instr.sureAddr, hp, hx, storeVar, Sem.run_bind, Sem.run_pure, Result.andThen_ok, hs, hsz, hv']
  simp [hrun, putAt]

/-! ### a row that is made is committed -/
/-- Commit the cells of a block from place o on. -/
def commit (C : Gh) (g o : Nat) (cs : List Value) : Gh := fun b k => if b = g ∧ o ≤ k ∧ k < o + cs.length then cs[k - o]? else C b k
theorem commit_seg (C : Gh) (g o : Nat) (cs : List Value) : Seg (commit C g o cs) g o cs := fun i v h => by
  have hi : i < cs.length := (List.getElem?_eq_some_iff.1 h).1
  simp only [commit]
  rw [if_pos ⟨trivial, by omega, by omega⟩, show o + i - o = i by omega]
  exact h
theorem commit_le {C : Gh} {g o : Nat} {cs : List Value} (h : ∀ k, o ≤ k → k < o + cs.length → C g k = none) : Gle C (commit C g o cs) := fun b k v e => by
  simp only [commit]
  rw [if_neg]
  · exact e
  · rintro ⟨rfl, h1, h2⟩
    rw [h k h1 h2] at e
    cases e
theorem commit_ne (C : Gh) {g b : Nat} (o : Nat) (cs : List Value) (h : b ≠ g) (k : Nat) : commit C g o cs b k = C b k := by
  simp [commit, h]
theorem commit_has {w : World} {C : Gh} {g o : Nat} {cs : List Value} (hH : Has w C) (hc : ∀ i v, cs[i]? = some v → w.cell? ⟨g, o + i, none⟩ = some v) : Has w (commit C g o cs) := fun b k v e => by
  simp only [commit] at e
  split at e
  · rename_i h
    obtain ⟨rfl, h1, h2⟩ := h
    have := hc _ _ e
    rwa [show o + (k - o) = k by omega] at this
  · exact hH b k v e
/-- The cells of elements, one behind the other. -/
inductive RowR {α : Type} (K : Kd α) (C : Gh) : List α → List Value → Prop where
  | nil : RowR K C [] []
  | cons {x : α} {xs : List α} {cs ds : List Value} (h : K.R C x cs) (t : RowR K C xs ds) : RowR K C (x :: xs) (cs ++ ds)
theorem RowR.len {α : Type} {K : Kd α} {C : Gh} {xs : List α} {cs : List Value} (h : RowR K C xs cs) : cs.length = xs.length * K.sz := by
  induction h with
  | nil => simp
  | cons h t ih => rw [List.length_append, K.len _ _ _ h, ih, List.length_cons, Nat.succ_mul]; omega
theorem RowR.one {α : Type} {K : Kd α} {C : Gh} {xs : List α} {cs : List Value} (h : RowR K C xs cs) : ∀ v ∈ cs, v.oneCell' = true := by
  induction h with
  | nil => simp
  | cons h t ih => intro v hv; rcases List.mem_append.1 hv with hv | hv; exact K.one _ _ _ h v hv; exact ih v hv
theorem RowR.mono {α : Type} {K : Kd α} {C C' : Gh} {xs : List α} {cs : List Value} (h : RowR K C xs cs) (hle : Gle C C') : RowR K C' xs cs := by
  induction h with
  | nil => exact .nil
  | cons h t ih => exact .cons (K.mono _ _ _ _ hle h) ih
theorem RowR.app {α : Type} {K : Kd α} {C : Gh} {xs ys : List α} {cs ds : List Value} (h : RowR K C xs cs) (k : RowR K C ys ds) : RowR K C (xs ++ ys) (cs ++ ds) := by
  induction h with
  | nil => exact k
  | cons h t ih => rw [List.cons_append, List.append_assoc]; exact .cons h ih
theorem Seg.left {C : Gh} {g o : Nat} {cs ds : List Value} (h : Seg C g o (cs ++ ds)) : Seg C g o cs := fun i v e => h i v (by
  have hi : i < cs.length := (List.getElem?_eq_some_iff.1 e).1
  rw [List.getElem?_append_left hi]; exact e)
theorem Seg.right {C : Gh} {g o : Nat} {cs ds : List Value} (h : Seg C g o (cs ++ ds)) : Seg C g (o + cs.length) ds := fun i v e => by
  have := h (cs.length + i) v (by rw [List.getElem?_append_right (by omega), show cs.length + i - cs.length = i by omega]; exact e)
  rwa [← Nat.add_assoc] at this
theorem Seg.app {C : Gh} {g o : Nat} {cs ds : List Value} (h : Seg C g o cs) (k : Seg C g (o + cs.length) ds) : Seg C g o (cs ++ ds) := fun i v e => by
  by_cases hi : i < cs.length
  · exact h i v (by rwa [List.getElem?_append_left hi] at e)
  · rw [List.getElem?_append_right (by omega)] at e
    have := k _ v e
    rwa [show o + cs.length + (i - cs.length) = o + i by omega] at this
theorem RowR.at_ {α : Type} {K : Kd α} {C : Gh} {xs : List α} {cs : List Value} (h : RowR K C xs cs) : ∀ (g o : Nat), Seg C g o cs → ∀ j x, xs[j]? = some x → ∃ ds, K.R C x ds ∧ Seg C g (o + j * K.sz) ds := by
  induction h with
  | nil => intro g o _ j x e; simp at e
  | cons h t ih =>
    rename_i x0 xs0 c0 d0
    intro g o hs j x e
    cases j with
    | zero =>
      simp only [List.getElem?_cons_zero, Option.some.injEq] at e
      subst e
      exact ⟨_, h, by simpa using hs.left⟩
    | succ j =>
      simp only [List.getElem?_cons_succ] at e
      obtain ⟨ds, h1, h2⟩ := ih g _ hs.right j x e
      refine ⟨ds, h1, ?_⟩
      rw [K.len _ _ _ h] at h2
      rwa [show o + (j + 1) * K.sz = o + K.sz + j * K.sz by rw [Nat.succ_mul]; omega]
theorem Sl.of_row {α : Type} {K : Kd α} {C : Gh} {g o c : Nat} {xs : List α} {cs : List Value} (h : RowR K C xs cs) (hs : Seg C g o cs) (hl : xs.length ≤ c) (hb : xs.length ≤ 140737488355328) : Sl K C (some ⟨g, o, none⟩) c xs :=
  ⟨hl, hb, fun j x e => let ⟨ds, h1, h2⟩ := h.at_ g o hs j x e; ⟨ds, h1, g, o, rfl, h2⟩⟩
/-- The cells of a slice's elements, as one list. -/
theorem Sl.rowTake {α : Type} {K : Kd α} {C : Gh} {A : Option Addr} {c : Nat} {xs : List α} (h : Sl K C A c xs) : ∀ n, n ≤ xs.length → ∃ cs, RowR K C (xs.take n) cs ∧ (0 < n → ∃ g o, A = some ⟨g, o, none⟩ ∧ Seg C g o cs) := by
  intro n
  induction n with
  | zero => intro _; exact ⟨[], by simpa using RowR.nil, fun h => by simp at h⟩
  | succ n ih =>
    intro hn
    obtain ⟨cs, h1, h2⟩ := ih (by omega)
    obtain ⟨x, hx⟩ : ∃ x, xs[n]? = some x := ⟨xs[n], by simp [show n < xs.length by omega]⟩
    obtain ⟨ds, h3, g, o, hA, h4⟩ := h.at_ n x hx
    have ht : xs.take (n + 1) = xs.take n ++ [x] := by rw [List.take_add_one, hx]; rfl
    refine ⟨cs ++ ds, by rw [ht]; simpa using h1.app (.cons h3 .nil), fun _ => ⟨g, o, hA, ?_⟩⟩
    rcases Nat.eq_zero_or_pos n with h0 | h0
    · subst h0
      simp only [List.take_zero] at h1
      cases h1
      simpa using h4
    · obtain ⟨g', o', hA', h5⟩ := h2 h0
      rw [hA] at hA'
      simp only [Option.some.injEq, Addr.mk.injEq] at hA'
      obtain ⟨rfl, rfl, _⟩ := hA'
      refine h5.app ?_
      rw [h1.len, List.length_take, Nat.min_eq_left (by omega)]
      exact h4
theorem Sl.row {α : Type} {K : Kd α} {C : Gh} {A : Option Addr} {c : Nat} {xs : List α} (h : Sl K C A c xs) : ∃ cs, RowR K C xs cs ∧ (0 < xs.length → ∃ g o, A = some ⟨g, o, none⟩ ∧ Seg C g o cs) := by
  have := h.rowTake xs.length (Nat.le_refl _)
  rwa [List.take_length] at this
end
end Go.Proofs.Ytlofomkhiefbmaa
