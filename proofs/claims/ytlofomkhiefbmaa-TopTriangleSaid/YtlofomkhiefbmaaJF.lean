/- The operations that make or write memory, as steps of a walk. -/
import Derived.Test.YtlofomkhiefbmaaJE
set_option linter.unusedVariables false
namespace Go.Proofs.Ytlofomkhiefbmaa
open Go.RowKit
theorem get_some {α : Type} {xs : List α} {j : Nat} (h : j < xs.length) : ∃ x, xs[j]? = some x := ⟨xs[j], by simp [h]⟩
theorem stCells {w w' : World} {C : Gh} {g : Nat} {cs : List Value} {t : TypeId} (h : St w C g cs t) (hb : Below w.heap.size w w') {j : Nat} {v : Value} (o : Nat) {ds : List Value} (hd : ds = (cs.drop o).take ds.length) (hj : ds[j]? = some v) : w'.cell? ⟨g, o + j, none⟩ = some v := by
  refine h.cellB hb ?_
  rw [hd] at hj
  rw [List.getElem?_take] at hj
  split at hj
  · rwa [List.getElem?_drop] at hj
  · cases hj
theorem Nb2.full {A A2 : Option Addr} {n n2 c2 : Nat} : Nb2 A n n A2 n2 c2 := fun _ _ _ => Nb.full
theorem Own.mut {B e sz : Nat} {w w' : World} {C C' : Gh} {A : Option Addr} {n c g : Nat} (h : Own B e sz w C A n c) (m : Mut g w C w' C') (hn : Nb A n c g) : Own B e sz w' C' A n c :=
  ⟨h.le, fun hl => let ⟨g', o, cs, h1, h2, h3, h4, h5⟩ := h.sp hl
    have hne : g' ≠ g := hn hl _ h1
    ⟨g', o, cs, h1, h2, (m.grown.block g' (blk_lt' h3) (by simp; exact hne)).trans h3, h4, fun k k1 k2 => (m.old g' k (blk_lt' h3) hne).trans (h5 k k1 k2)⟩⟩
theorem Nb2.symm {A A2 : Option Addr} {n c n2 c2 : Nat} (h : Nb2 A n c A2 n2 c2) : Nb2 A2 n2 c2 A n c := fun h1 a ha h2 a2 ha2 => (h h2 a2 ha2 h1 a ha).symm
theorem Nb2.nil {A2 : Option Addr} {n2 c2 : Nat} : Nb2 none 0 0 A2 n2 c2 := Nb2.full
theorem App.nb2 {B e sz : Nat} {w w' : World} {C C' : Gh} {A A' A2 : Option Addr} {n c n' c' n2 c2 : Nat} (m : App A n c w C A' n' c' w' C') (h : Own B e sz w C A2 n2 c2) (hn : Nb2 A n c A2 n2 c2) : Nb2 A' n' c' A2 n2 c2 := fun hl a ha => by
  obtain ⟨g, o, cs, h1, _, h3, _⟩ := h.sp hl
  have hg := blk_lt' h3
  have := hn hl a ha
  rw [h1] at ha
  cases ha
  exact m.nb g hg this
/-- A state that is only read from here on is committed. -/
theorem St.commit {w : World} {C : Gh} {g : Nat} {cs : List Value} {t : TypeId} (h : St w C g cs t) (hH : Has w C) : ∃ C', Mut g w C w C' ∧ CellsG C' (some ⟨g, 0, none⟩) 0 cs := by
  have hle : Gle C (Go.Proofs.Ytlofomkhiefbmaa.commit C g 0 cs) := commit_le fun k _ _ => h.un k
  refine ⟨Go.Proofs.Ytlofomkhiefbmaa.commit C g 0 cs, ⟨⟨rfl, rfl, rfl, Nat.le_refl _, fun _ _ _ => rfl⟩, commit_has hH fun i v hv => ?_, hle, fun k o _ hk => commit_ne _ _ _ hk _⟩, ⟨g, 0, rfl, commit_seg _ _ _ _⟩⟩
  rw [Nat.zero_add]
  exact h.cell hv
/-- What a callee has made is apart from what was there. -/
theorem nb2_new {B e sz e2 sz2 : Nat} {w w' : World} {C C' : Gh} {A A2 : Option Addr} {n c n2 c2 : Nat} (h : Own B e sz w C A n c) (h2 : Own w.heap.size e2 sz2 w' C' A2 n2 c2) : Nb2 A n c A2 n2 c2 := fun hl a ha hl1 a1 ha1 => by
  obtain ⟨g, o, cs, k1, _, k3, _⟩ := h.sp hl1
  obtain ⟨g2, o2, cs2, k4, k5, _⟩ := h2.sp hl
  have := blk_lt' k3
  rw [k1] at ha1
  rw [k4] at ha
  cases ha1
  cases ha
  simp
  omega
/-- The worlds of a region that draws: what was committed, and the blocks that M tells. -/
structure SS (C : Gh) (M : Nat → Prop) (WS w' : World) : Prop where
  has : Has w' C
  size : WS.heap.size ≤ w'.heap.size
  blk : ∀ k, k < WS.heap.size → M k → w'.heap[k]? = WS.heap[k]?
theorem SS.refl {C : Gh} {M : Nat → Prop} {w : World} (h : Has w C) : SS C M w w := ⟨h, Nat.le_refl _, fun _ _ _ => rfl⟩
theorem SS.step {C C1 C2 : Gh} {M : Nat → Prop} {WS w w2 : World} (h : SS C M WS w) (e : Ext w.heap.size w C1 w2 C2) : SS C M WS w2 :=
  ⟨h.has.below e.below, Nat.le_trans h.size e.below.size, fun k hk hm => (e.below.block k (Nat.lt_of_lt_of_le hk h.size)).trans (h.blk k hk hm)⟩
theorem SS.app {C C1 C2 : Gh} {M : Nat → Prop} {WS w w2 : World} {A A' : Option Addr} {n c n' c' : Nat} (h : SS C M WS w) (m : App A n c w C1 A' n' c' w2 C2) (hH : Has w2 C2) (hle : Gle C C2) (hM : ∀ k, M k → Nb A n c k) : SS C M WS w2 :=
  ⟨fun b o v e => hH b o v (hle b o v e), Nat.le_trans h.size m.size, fun k hk hm => ((m.oth k (Nat.lt_of_lt_of_le hk h.size) (hM k hm)).1).trans (h.blk k hk hm)⟩
theorem SS.cell {C C1 : Gh} {M : Nat → Prop} {WS w' : World} {g : Nat} {cs : List Value} {t : TypeId} (h : SS C M WS w') (st : St WS C1 g cs t) (hM : M g) {o : Nat} {v : Value} (hv : cs[o]? = some v) : w'.cell? ⟨g, o, none⟩ = some v := by
  rw [World.cell?_of_block (w := WS) (h.blk g st.lt hM)]
  exact st.cell hv
theorem SS.cells {C C1 : Gh} {M : Nat → Prop} {WS w' : World} {g : Nat} {cs : List Value} {t : TypeId} (h : SS C M WS w') (st : St WS C1 g cs t) (hM : M g) {j : Nat} {v : Value} (o : Nat) {ds : List Value} (hd : ds = (cs.drop o).take ds.length) (hj : ds[j]? = some v) : w'.cell? ⟨g, o + j, none⟩ = some v := by
  rw [World.cell?_of_block (w := WS) (h.blk g st.lt hM)]
  exact stCells st (Below.refl _ _) o hd hj
section
variable {P : Program} {N : Nat} {Q : Exit → Fr → World → Prop} {T : Fr} {w : World} {ops : Array Oper} {S : World → Prop} {zs : List Nat} {i : Nat} {o : Oper} {C : Gh}
section
variable {t d : Nat} {cs : List Value} {v : Value}
theorem FWl.alloc {l : List Oper} (ho : o.op = .alloc t) (hd : o.dst = some d) (hw : wantedF ops T o = true) (hz : ∀ w, (zeroValue t).run P w = .ok v w) (hcs : v.cells = cs.toArray) (hH : Has w C)
    (h : ∀ g w', St w' C g cs t → Ext w.heap.size w C w' C → w.heap.size = g → FWl P N ops Q l (upd T d (.pointer (some ⟨g, 0, none⟩))) w') : FWl P N ops Q (o :: l) T w := by
  obtain ⟨dst, op, ty, pos, af, gd⟩ := o; cases ho
  obtain ⟨g, w', hr, h1, h2, h3⟩ := new_alloc (P := P) (ρ := ev T) (d := dst) (ty := ty) (pos := pos) (af := af) (gd := gd) hz hcs hH
  exact FWl.val d hd hw _ _ hr (h g w' h1 h2 h3)
theorem FWs.alloc {l : List (Nat × Bool)} (hi : ops[i]? = some o) (ho : o.op = .alloc t) (hd : o.dst = some d) (hw : wantedF ops T o = true) (hz : ∀ w, (zeroValue t).run P w = .ok v w) (hcs : v.cells = cs.toArray) (hH : Has w C)
    (h : ∀ g w', St w' C g cs t → Ext w.heap.size w C w' C → w.heap.size = g → (zs.contains i = true ∨ S w') ∧ FWs P N ops Q S zs l (upd T d (.pointer (some ⟨g, 0, none⟩))) w') : FWs P N ops Q S zs ((i, false) :: l) T w := by
  obtain ⟨dst, op, ty, pos, af, gd⟩ := o; cases ho
  obtain ⟨g, w', hr, h1, h2, h3⟩ := new_alloc (P := P) (ρ := ev T) (d := dst) (ty := ty) (pos := pos) (af := af) (gd := gd) hz hcs hH
  exact FWs.val hi d hd hw _ _ hr (h g w' h1 h2 h3).1 (h g w' h1 h2 h3).2
theorem FWl.box {l : List Oper} {x : Operand} (ho : o.op = .box t x) (hd : o.dst = some d) (hw : wantedF ops T o = true) (hx : ev T x = v) (hcs : v.cells = cs.toArray) (hH : Has w C)
    (h : ∀ g w', St w' C g cs t → Ext w.heap.size w C w' C → w.heap.size = g → FWl P N ops Q l (upd T d (.pointer (some ⟨g, 0, none⟩))) w') : FWl P N ops Q (o :: l) T w := by
  obtain ⟨dst, op, ty, pos, af, gd⟩ := o; cases ho
  obtain ⟨g, w', hr, h1, h2, h3⟩ := new_box (P := P) (ρ := ev T) (d := dst) (ty := ty) (pos := pos) (af := af) (gd := gd) hx hcs hH
  exact FWl.val d hd hw _ _ hr (h g w' h1 h2 h3)
theorem FWs.box {l : List (Nat × Bool)} {x : Operand} (hi : ops[i]? = some o) (ho : o.op = .box t x) (hd : o.dst = some d) (hw : wantedF ops T o = true) (hx : ev T x = v) (hcs : v.cells = cs.toArray) (hH : Has w C)
    (h : ∀ g w', St w' C g cs t → Ext w.heap.size w C w' C → w.heap.size = g → (zs.contains i = true ∨ S w') ∧ FWs P N ops Q S zs l (upd T d (.pointer (some ⟨g, 0, none⟩))) w') : FWs P N ops Q S zs ((i, false) :: l) T w := by
  obtain ⟨dst, op, ty, pos, af, gd⟩ := o; cases ho
  obtain ⟨g, w', hr, h1, h2, h3⟩ := new_box (P := P) (ρ := ev T) (d := dst) (ty := ty) (pos := pos) (af := af) (gd := gd) hx hcs hH
  exact FWs.val hi d hd hw _ _ hr (h g w' h1 h2 h3).1 (h g w' h1 h2 h3).2
end
section
variable {t ts g k n : Nat} {x p : Operand} {cs vs cs' : List Value} {v : Value}
theorem FWl.store {l : List Oper} (ho : o.op = .store t p x) (hd : o.dst = none) (hw : wantedF ops T o = true) (hs : ∀ w, (sizeOf t).run P w = .ok n w) (hn : vs.length = n) (hst : St w C g cs ts) (hH : Has w C)
    (hp : ev T p = .pointer (some ⟨g, k, none⟩)) (hx : ev T x = v) (hv : v.cells = vs.toArray) (h1 : (vs.all fun u => u.oneCell') = true) (hl : Nat.ble (k + vs.length) cs.length = true) (hc : putAt cs k vs = cs')
    (h : ∀ w', Mut g w C w' C → St w' C g cs' ts → FWl P N ops Q l T w') : FWl P N ops Q (o :: l) T w := by
  obtain ⟨dst, op, ty, pos, af, gd⟩ := o; cases ho
  obtain ⟨w', hr, h2, h3⟩ := r_storeSt (P := P) (ρ := ev T) (d := dst) (ty := ty) (pos := pos) (af := af) (gd := gd) hs hn hst hH hp hx hv h1 (Nat.le_of_ble_eq_true hl)
  exact FWl.unit hd hw _ hr (h w' h2 (hc ▸ h3))
theorem FWs.store {l : List (Nat × Bool)} (hi : ops[i]? = some o) (ho : o.op = .store t p x) (hd : o.dst = none) (hw : wantedF ops T o = true) (hs : ∀ w, (sizeOf t).run P w = .ok n w) (hn : vs.length = n) (hst : St w C g cs ts) (hH : Has w C)
    (hp : ev T p = .pointer (some ⟨g, k, none⟩)) (hx : ev T x = v) (hv : v.cells = vs.toArray) (h1 : (vs.all fun u => u.oneCell') = true) (hl : Nat.ble (k + vs.length) cs.length = true) (hc : putAt cs k vs = cs')
    (h : ∀ w', Mut g w C w' C → St w' C g cs' ts → (zs.contains i = true ∨ S w') ∧ FWs P N ops Q S zs l T w') : FWs P N ops Q S zs ((i, false) :: l) T w := by
  obtain ⟨dst, op, ty, pos, af, gd⟩ := o; cases ho
  obtain ⟨w', hr, h2, h3⟩ := r_storeSt (P := P) (ρ := ev T) (d := dst) (ty := ty) (pos := pos) (af := af) (gd := gd) hs hn hst hH hp hx hv h1 (Nat.le_of_ble_eq_true hl)
  exact FWs.unit hi hd hw _ hr (h w' h2 (hc ▸ h3)).1 (h w' h2 (hc ▸ h3)).2
end
section
variable {α : Type} {K : Kd α} {t e d len : Nat} {parts : Array (Nat × Operand)} {xs ys : List α} {cs : List Value} {ie : TypeInfo} {z : Value}
theorem FWl.lit {l : List Oper} (ho : o.op = .buildSlice t len parts) (hd : o.dst = some d) (hw : wantedF ops T o = true) (hu : P.underlying t = some (.slice e)) (hie : P.info? e = some ie) (hz : ie.zero = some z)
    (hsmall : (Nat.ble (len * ie.size) 16777216 && Nat.blt 0 (len * ie.size)) = true)
    (hf : Instr.fill (fun i => some (i * ie.size, ie.size)) ((Array.range (len * ie.size)).map (z.cells[· % z.cells.size]!)) (parts.map fun (i, x) => (i, ev T x)).toList = some cs.toArray)
    (hr : RowR K C xs cs) (hl : xs.length = len) (hH : Has w C)
    (h : ∀ A w' C', Sl K C' A len xs → Ext w.heap.size w C w' C' → CellsG C' A 0 cs → FWl P N ops Q l (upd T d (.slice A len len)) w') : FWl P N ops Q (o :: l) T w := by
  obtain ⟨dst, op, ty, pos, af, gd⟩ := o; cases ho
  obtain ⟨A, w', C', hrun, h1, h2, h3⟩ := new_lit (P := P) (ρ := ev T) (d := dst) (ty := ty) (pos := pos) (af := af) (gd := gd) hu hie hz hsmall hf hr hl hH
  exact FWl.val d hd hw _ _ hrun (h A w' C' h1 h2 h3)
theorem FWs.lit {l : List (Nat × Bool)} (hi : ops[i]? = some o) (ho : o.op = .buildSlice t len parts) (hd : o.dst = some d) (hw : wantedF ops T o = true) (hu : P.underlying t = some (.slice e)) (hie : P.info? e = some ie) (hz : ie.zero = some z)
    (hsmall : (Nat.ble (len * ie.size) 16777216 && Nat.blt 0 (len * ie.size)) = true)
    (hf : Instr.fill (fun i => some (i * ie.size, ie.size)) ((Array.range (len * ie.size)).map (z.cells[· % z.cells.size]!)) (parts.map fun (i, x) => (i, ev T x)).toList = some cs.toArray)
    (hr : RowR K C xs cs) (hl : xs.length = len) (hH : Has w C)
    (h : ∀ A w' C', Sl K C' A len xs → Ext w.heap.size w C w' C' → CellsG C' A 0 cs → (zs.contains i = true ∨ S w') ∧ FWs P N ops Q S zs l (upd T d (.slice A len len)) w') : FWs P N ops Q S zs ((i, false) :: l) T w := by
  obtain ⟨dst, op, ty, pos, af, gd⟩ := o; cases ho
  obtain ⟨A, w', C', hrun, h1, h2, h3⟩ := new_lit (P := P) (ρ := ev T) (d := dst) (ty := ty) (pos := pos) (af := af) (gd := gd) hu hie hz hsmall hf hr hl hH
  exact FWs.val hi d hd hw _ _ hrun (h A w' C' h1 h2 h3).1 (h A w' C' h1 h2 h3).2
theorem new_lit0 {ρ : Operand → Value} {d : Option Tmp} {ty : TypeId} {pos : String} {af : Array Edge} {gd : Option (Nat × Bool)} {n : Nat} (hu : ∀ w, (underlying t).run P w = .ok (.slice e) w) (hs : ∀ w, (sizeOf e).run P w = .ok n w) (hH : Has w C) :
    ∃ a w', (execOp ρ ⟨d, .buildSlice t 0 #[], ty, pos, af, gd⟩).run P w = .ok (.value (.slice (some a) 0 0)) w' ∧ Ext w.heap.size w C w' C :=
  ⟨⟨w.heap.size, 0, none⟩, w.alloc (.cells #[] e), by
    have h0 : ∀ f : Nat → Value, Array.map f (Array.range 0) = #[] := fun f => by apply Array.eq_empty_of_size_eq_zero; simp
    simp [execOp, Instr.buildSlice, hu, hs, Instr.fill, newRow, h0], alloc_ext hH _⟩
theorem FWl.lit0 {n : Nat} {l : List Oper} (ho : o.op = .buildSlice t 0 #[]) (hd : o.dst = some d) (hw : wantedF ops T o = true) (hu : ∀ w, (underlying t).run P w = .ok (.slice e) w) (hs : ∀ w, (sizeOf e).run P w = .ok n w) (hH : Has w C)
    (h : ∀ a w', Ext w.heap.size w C w' C → FWl P N ops Q l (upd T d (.slice (some a) 0 0)) w') : FWl P N ops Q (o :: l) T w := by
  obtain ⟨dst, op, ty, pos, af, gd⟩ := o; cases ho
  obtain ⟨a, w', hrun, h1⟩ := new_lit0 (P := P) (ρ := ev T) (d := dst) (ty := ty) (pos := pos) (af := af) (gd := gd) hu hs hH
  exact FWl.val d hd hw _ _ hrun (h a w' h1)
theorem FWs.lit0 {n : Nat} {l : List (Nat × Bool)} (hi : ops[i]? = some o) (ho : o.op = .buildSlice t 0 #[]) (hd : o.dst = some d) (hw : wantedF ops T o = true) (hu : ∀ w, (underlying t).run P w = .ok (.slice e) w) (hs : ∀ w, (sizeOf e).run P w = .ok n w) (hH : Has w C)
    (h : ∀ a w', Ext w.heap.size w C w' C → (zs.contains i = true ∨ S w') ∧ FWs P N ops Q S zs l (upd T d (.slice (some a) 0 0)) w') : FWs P N ops Q S zs ((i, false) :: l) T w := by
  obtain ⟨dst, op, ty, pos, af, gd⟩ := o; cases ho
  obtain ⟨a, w', hrun, h1⟩ := new_lit0 (P := P) (ρ := ev T) (d := dst) (ty := ty) (pos := pos) (af := af) (gd := gd) hu hs hH
  exact FWs.val hi d hd hw _ _ hrun (h a w' h1).1 (h a w' h1).2
variable {B sz bytes : Nat} {A A2 : Option Addr} {c c2 : Nat} {x y : Operand}
theorem FWl.app {l : List Oper} (ho : o.op = .call { callee := .builtin .append, args := #[x, y], argTypes := #[t, t] }) (hd : o.dst = some d) (hw : wantedF ops T o = true)
    (ht : P.underlying t = some (.slice e)) (hi : P.info? e = some ie) (hz : ie.zero = some z) (hsz : ie.size = sz) (hby : ie.bytes = bytes) (hzs : z.cells.size = sz) (hpos : Nat.blt 0 sz = true) (hK : K.sz = sz)
    (hx : ev T x = .slice A xs.length c) (hy : ev T y = .slice A2 ys.length c2)
    (h1 : Sl K C A c xs) (hO : Own B e sz w C A xs.length c) (h2 : Sl K C A2 c2 ys) (hH : Has w C) (hB : B ≤ w.heap.size) (hb : (xs.length + ys.length) * bytes ≤ 140737488355328) (hlen : xs.length + ys.length ≤ 140737488355328)
    (h : ∀ A' c' w' C', Sl K C' A' c' (xs ++ ys) → Own B e sz w' C' A' (xs ++ ys).length c' → Ext B w C w' C' → App A xs.length c w C A' (xs ++ ys).length c' w' C' →
      FWl P N ops Q l (upd T d (.slice A' (xs ++ ys).length c')) w') : FWl P N ops Q (o :: l) T w := by
  obtain ⟨dst, op, ty, pos, af, gd⟩ := o; cases ho
  obtain ⟨A', c', w', C', hrun, k1, k2, k3, k4⟩ := r_append (P := P) (ρ := ev T) (d := dst) (ty := ty) (pos := pos) (af := af) (gd := gd) ht hi hz hsz hby hzs hpos hK hx hy h1 hO h2 hH hB hb hlen
  exact FWl.val d hd hw _ _ hrun (h A' c' w' C' k1 k2 k3 k4)
theorem FWs.app {l : List (Nat × Bool)} (hi' : ops[i]? = some o) (ho : o.op = .call { callee := .builtin .append, args := #[x, y], argTypes := #[t, t] }) (hd : o.dst = some d) (hw : wantedF ops T o = true)
    (ht : P.underlying t = some (.slice e)) (hi : P.info? e = some ie) (hz : ie.zero = some z) (hsz : ie.size = sz) (hby : ie.bytes = bytes) (hzs : z.cells.size = sz) (hpos : Nat.blt 0 sz = true) (hK : K.sz = sz)
    (hx : ev T x = .slice A xs.length c) (hy : ev T y = .slice A2 ys.length c2)
    (h1 : Sl K C A c xs) (hO : Own B e sz w C A xs.length c) (h2 : Sl K C A2 c2 ys) (hH : Has w C) (hB : B ≤ w.heap.size) (hb : (xs.length + ys.length) * bytes ≤ 140737488355328) (hlen : xs.length + ys.length ≤ 140737488355328)
    (h : ∀ A' c' w' C', Sl K C' A' c' (xs ++ ys) → Own B e sz w' C' A' (xs ++ ys).length c' → Ext B w C w' C' → App A xs.length c w C A' (xs ++ ys).length c' w' C' →
      (zs.contains i = true ∨ S w') ∧ FWs P N ops Q S zs l (upd T d (.slice A' (xs ++ ys).length c')) w') : FWs P N ops Q S zs ((i, false) :: l) T w := by
  obtain ⟨dst, op, ty, pos, af, gd⟩ := o; cases ho
  obtain ⟨A', c', w', C', hrun, k1, k2, k3, k4⟩ := r_append (P := P) (ρ := ev T) (d := dst) (ty := ty) (pos := pos) (af := af) (gd := gd) ht hi hz hsz hby hzs hpos hK hx hy h1 hO h2 hH hB hb hlen
  exact FWs.val hi' d hd hw _ _ hrun (h A' c' w' C' k1 k2 k3 k4).1 (h A' c' w' C' k1 k2 k3 k4).2
end
theorem r_loadP1 {ρ : Operand → Value} {d : Option Tmp} {ty : TypeId} {pos : String} {af : Array Edge} {gd : Option (Nat × Bool)} {x : Operand} {t g j : Nat} {cs : List Value} {v : Value} (ha : ∀ w, (isAgg t).run P w = .ok false w) (hC : CellsG C (some ⟨g, 0, none⟩) 0 cs) (hi : cs[j]? = some v) (hx : ρ x = .pointer (some ⟨g, j, none⟩)) (hH : Has w C) :
    (execOp ρ ⟨d, .load t x, ty, pos, af, gd⟩).run P w = .ok (.value v) w := by
  obtain ⟨g', o, hA, hs⟩ := hC
  cases hA
  have := hs j v hi
  simp only [Nat.zero_add] at this
  exact r_load1 ha hx (hH _ _ _ this)
theorem r_loadPN {ρ : Operand → Value} {d : Option Tmp} {ty : TypeId} {pos : String} {af : Array Edge} {gd : Option (Nat × Bool)} {x : Operand} {t g : Nat} {cs : List Value} (ha : ∀ w, (isAgg t).run P w = .ok true w) (hs : ∀ w, (sizeOf t).run P w = .ok cs.length w) (hC : CellsG C (some ⟨g, 0, none⟩) 0 cs) (hx : ρ x = .pointer (some ⟨g, 0, none⟩)) (hH : Has w C) :
    (execOp ρ ⟨d, .load t x, ty, pos, af, gd⟩).run P w = .ok (.value (.agg cs.toArray)) w := by
  obtain ⟨g', o, hA, hseg⟩ := hC
  cases hA
  refine r_loadN ha hs hx fun j v hj => ?_
  rw [add_lit]
  exact hH _ _ _ (hseg j v hj)
/-! ### calls by their number of arguments -/
section
variable {ρ : Operand → Value} {d : Option Tmp} {ty : TypeId} {pos : String} {af : Array Edge} {gd : Option (Nat × Bool)} {f : FuncId} {ts : Array TypeId} {a0 a1 a2 a3 a4 a5 : Operand} {v0 v1 v2 v3 v4 v5 : Value}
theorem r_call0 (hcall : ∀ (args : Array Value) (w : World), (callFunc f args).run P w = .ok (.enter f args) w) (hf : ρ (.func f) = .func (.func f) #[] #[]) :
    (execOp ρ ⟨d, .call { callee := .value (.func f), args := #[], argTypes := ts }, ty, pos, af, gd⟩).run P w = .ok (.enter f #[]) w := by
  simp [execOp, resolve, hf, Deferred.ofValue, invoke, hcall]
theorem r_call1 (hcall : ∀ (args : Array Value) (w : World), (callFunc f args).run P w = .ok (.enter f args) w) (hf : ρ (.func f) = .func (.func f) #[] #[]) (h0 : ρ a0 = v0) :
    (execOp ρ ⟨d, .call { callee := .value (.func f), args := #[a0], argTypes := ts }, ty, pos, af, gd⟩).run P w = .ok (.enter f #[v0]) w := by
  simp [execOp, resolve, hf, Deferred.ofValue, invoke, hcall, h0]
theorem r_call2 (hcall : ∀ (args : Array Value) (w : World), (callFunc f args).run P w = .ok (.enter f args) w) (hf : ρ (.func f) = .func (.func f) #[] #[]) (h0 : ρ a0 = v0) (h1 : ρ a1 = v1) :
    (execOp ρ ⟨d, .call { callee := .value (.func f), args := #[a0, a1], argTypes := ts }, ty, pos, af, gd⟩).run P w = .ok (.enter f #[v0, v1]) w := by
  simp [execOp, resolve, hf, Deferred.ofValue, invoke, hcall, h0, h1]
theorem r_call3 (hcall : ∀ (args : Array Value) (w : World), (callFunc f args).run P w = .ok (.enter f args) w) (hf : ρ (.func f) = .func (.func f) #[] #[]) (h0 : ρ a0 = v0) (h1 : ρ a1 = v1) (h2 : ρ a2 = v2) :
    (execOp ρ ⟨d, .call { callee := .value (.func f), args := #[a0, a1, a2], argTypes := ts }, ty, pos, af, gd⟩).run P w = .ok (.enter f #[v0, v1, v2]) w := by
  simp [execOp, resolve, hf, Deferred.ofValue, invoke, hcall, h0, h1, h2]
theorem r_call4 (hcall : ∀ (args : Array Value) (w : World), (callFunc f args).run P w = .ok (.enter f args) w) (hf : ρ (.func f) = .func (.func f) #[] #[]) (h0 : ρ a0 = v0) (h1 : ρ a1 = v1) (h2 : ρ a2 = v2) (h3 : ρ a3 = v3) :
    (execOp ρ ⟨d, .call { callee := .value (.func f), args := #[a0, a1, a2, a3], argTypes := ts }, ty, pos, af, gd⟩).run P w = .ok (.enter f #[v0, v1, v2, v3]) w := by
  simp [execOp, resolve, hf, Deferred.ofValue, invoke, hcall, h0, h1, h2, h3]
theorem r_call5 (hcall : ∀ (args : Array Value) (w : World), (callFunc f args).run P w = .ok (.enter f args) w) (hf : ρ (.func f) = .func (.func f) #[] #[]) (h0 : ρ a0 = v0) (h1 : ρ a1 = v1) (h2 : ρ a2 = v2) (h3 : ρ a3 = v3) (h4 : ρ a4 = v4) :
    (execOp ρ ⟨d, .call { callee := .value (.func f), args := #[a0, a1, a2, a3, a4], argTypes := ts }, ty, pos, af, gd⟩).run P w = .ok (.enter f #[v0, v1, v2, v3, v4]) w := by
  simp [execOp, resolve, hf, Deferred.ofValue, invoke, hcall, h0, h1, h2, h3, h4]
theorem r_makeFunc0 {fn : Fn} : (execOp ρ ⟨d, .makeFunc fn #[] #[], ty, pos, af, gd⟩).run P w = .ok (.value (.func fn #[] #[])) w := by simp [execOp, Instr.makeFunc]
theorem r_makeFunc1 {fn : Fn} (h0 : ρ a0 = v0) : (execOp ρ ⟨d, .makeFunc fn #[] #[a0], ty, pos, af, gd⟩).run P w = .ok (.value (.func fn #[] #[v0])) w := by simp [execOp, Instr.makeFunc, h0]
theorem r_makeFunc2 {fn : Fn} (h0 : ρ a0 = v0) (h1 : ρ a1 = v1) : (execOp ρ ⟨d, .makeFunc fn #[] #[a0, a1], ty, pos, af, gd⟩).run P w = .ok (.value (.func fn #[] #[v0, v1])) w := by simp [execOp, Instr.makeFunc, h0, h1]
end
end
end Go.Proofs.Ytlofomkhiefbmaa
