/- Bytes and strings; loops taken round by round. -/
import Derived.Test.YtlofomkhiefbmaaJL
import Derived.Laws.BytesString
import Derived.Scope
import Derived.Laws.IdiomStrings
set_option linter.unusedVariables false
namespace Go.Proofs.Ytlofomkhiefbmaa
open Go.RowKit
/-- At the head of a loop's round. -/
def FWL (P : Program) (N : Nat) (c : Code) (Q : Exit → Fr → World → Prop) (T : Fr) (w : World) : Prop :=
  ∀ a, Rel N T a → ∀ b k cs, ∃ e a' w', wrap N Q e a' w' ∧ Arrives P (lone (b.at a (.code c :: .inLoop c :: k)) cs w) b k cs e a' w'
section
variable {P : Program} {N : Nat} {c : Code} {Q : Exit → Fr → World → Prop} {T : Fr} {w : World}
theorem FW.loop_in (h : FWL P N c Q T w) : FW P N (.loop c) Q T w := by
  intro a ha b k cs
  obtain ⟨e, a', w', hq, harr⟩ := h a ha b k cs
  exact ⟨e, a', w', hq, .of_steps (.one step_loop) harr⟩
theorem FWL.unroll (h : FW P N c (thenF (fun T w => FWL P N c Q T w) Q) T w) : FWL P N c Q T w := by
  intro a ha b k cs
  obtain ⟨e, a₁, w₁, hq, harr⟩ := h a ha b (.inLoop c :: k) cs
  cases e with
  | normal =>
    obtain ⟨T₁, hr, hI⟩ := hq
    obtain ⟨e₂, a₂, w₂, hq₂, harr₂⟩ := hI a₁ hr b k cs
    exact ⟨e₂, a₂, w₂, hq₂, .of_steps (Steps.trans harr (.one step_inLoop)) harr₂⟩
  | exit id => exact ⟨.exit id, a₁, w₁, hq, .pass (x := .inLoop c) rfl (fun _ _ => .inl (by simp)) harr⟩
  | goto l => exact ⟨.goto l, a₁, w₁, hq, .pass (x := .inLoop c) rfl (fun _ _ => .inl (by simp)) harr⟩
  | ret => exact ⟨.ret, a₁, w₁, hq, .pass (x := .inLoop c) rfl (fun _ _ => .inl (by simp)) harr⟩
  | panic ch => exact hq.elim
  | outgrown => exact hq.elim
theorem thenF_round (h : FW P N c (thenF (fun T w => FWL P N c Q T w) Q) T w) : thenF (fun T w => FWL P N c Q T w) Q .normal T w := FWL.unroll h
end
def noGotoF (Q : Exit → Fr → World → Prop) : Exit → Fr → World → Prop
  | .goto _, _, _ => False
  | e, T, w => Q e T w
section
variable {P : Program} {N : Nat} {c : Code} {Q : Exit → Fr → World → Prop} {T : Fr} {w : World}
theorem noGotoF_norm (h : Q .normal T w) : noGotoF Q .normal T w := h
theorem noGotoF_ret (h : Q .ret T w) : noGotoF Q .ret T w := h
theorem noGotoF_exit {i : Nat} (h : Q (.exit i) T w) : noGotoF Q (.exit i) T w := h
theorem FW.scope (h : FW P N c (noGotoF Q) T w) : FW P N (.scope c) Q T w := fun a ha =>
  wp_scope_straight (wp_mono (h a ha) fun e a' w' hw => by
    cases e <;> simp only [wrap, noGotoF, Exit.noGoto] at hw ⊢
    case goto => obtain ⟨_, _, h⟩ := hw; exact h.elim
    all_goals exact hw)
end
theorem Sl.lit {α : Type} {K : Kd α} {C : Gh} {A : Option Addr} {c : Nat} {xs ys : List α} (h : Sl K C A c xs) (e : xs = ys) : Sl K C A c ys := e ▸ h
/-! ### bytes -/
def bt (l : List UInt8) : List Int := l.map fun b => (b.toNat : Int)
section
variable {P : Program} {ρ : Operand → Value} {d : Option Tmp} {ty : TypeId} {pos : String} {af : Array Edge} {gd : Option (Nat × Bool)} {w : World} {C : Gh} {t t' e : TypeId} {x : Operand}
theorem sl_cells {A : Option Addr} {c : Nat} {l : List UInt8} (h : Sl (kInt .u8) C A c (bt l)) (hp : 0 < l.length) : ∃ a, A = some a ∧ ∀ w, Has w C → ∀ j (hj : j < l.length), w.cell? (a.add j) = some (.int .u8 (l[j].toNat : Int)) := by
  obtain ⟨g, o, rfl⟩ : ∃ g o, A = some ⟨g, o, none⟩ := by
    obtain ⟨cs, hr, hsg⟩ := h.row
    obtain ⟨g2, o2, h1, _⟩ := hsg (by simpa [bt] using hp)
    exact ⟨g2, o2, h1⟩
  refine ⟨_, rfl, fun w hH j hj => ?_⟩
  have hx : (bt l)[j]? = some (l[j].toNat : Int) := by simp [bt, hj]
  obtain ⟨cs, hr, hg⟩ := h.at_ j _ hx
  have hr' : cs = [.int .u8 (l[j].toNat : Int)] := hr
  subst hr'
  obtain ⟨g', o', hA, hs⟩ := hg
  cases hA
  have := hs 0 _ rfl
  simp only [kInt, Nat.mul_one, Nat.add_zero] at this
  rw [add_lit]
  exact hH _ _ _ this
theorem r_bytesStr {A : Option Addr} {c : Nat} {l : List UInt8} {xs : List Int} {r : ByteArray} (hs : P.underlying t = some (.slice e)) (he : P.underlying e = some (.int .u8)) (hd : P.underlying t' = some .string) (h : Sl (kInt .u8) C A c xs) (hxs : xs = bt l) (hr : (⟨l.toArray⟩ : ByteArray) = r) (hp : 0 < l.length) (hH : Has w C) (hx : ρ x = .slice A xs.length c) :
    (execOp ρ ⟨d, .convert t t' x, ty, pos, af, gd⟩).run P w = .ok (.value (.string r)) w := by
  subst hxs hr
  obtain ⟨a, rfl, hc⟩ := sl_cells h hp
  have hl : (bt l).length = l.length := by simp [bt]
  rw [hl] at hx
  simp only [execOp, hx, Sem.run_bind, run_convert_bytes_back w t t' e a c l hs he hd (hc w hH), Result.andThen_ok, Sem.run_pure]
theorem r_sliceHM {A : Option Addr} {n c sz : Nat} {h m : Int} {xh xm : Operand} (hu : P.underlying t = some (.slice e)) (hs : ∀ w, (sizeOf e).run P w = .ok sz w) (hx : ρ x = .slice A n c) (hh : ρ xh = .int .i64 h) (hm : ρ xm = .int .i64 m) (h0 : 0 ≤ h) (h1 : h ≤ m) (h2 : m ≤ c) :
    (execOp ρ ⟨d, .slice t x none (some xh) (some xm), ty, pos, af, gd⟩).run P w = .ok (.value (.slice A h.toNat m.toNat)) w := by
  have e1 : 0 ≤ m := by omega
  have e2 : max m 0 = m := by omega
  simp [execOp, hx, hh, hm, Instr.sliceAt, Instr.slice, underlying, hu, Instr.sliceBounds, Instr.sliceBound, asIntOf, e1, e2, h0, h1, h2, hs, Int.toNat_of_nonneg]
  exact fun _ => map_add0 A
theorem r_min2E {x y : Operand} {ts : Array TypeId} {k : IntKind} {a b c : Int} (hx : ρ x = .int k a) (hy : ρ y = .int k b) (he : min a b = c) :
    (execOp ρ ⟨d, .call { callee := .builtin .min, args := #[x, y], argTypes := ts }, ty, pos, af, gd⟩).run P w = .ok (.value (.int k c)) w := by subst he; exact r_min2 hx hy
theorem r_max2E {x y : Operand} {ts : Array TypeId} {k : IntKind} {a b c : Int} (hx : ρ x = .int k a) (hy : ρ y = .int k b) (he : max a b = c) :
    (execOp ρ ⟨d, .call { callee := .builtin .max, args := #[x, y], argTypes := ts }, ty, pos, af, gd⟩).run P w = .ok (.value (.int k c)) w := by subst he; exact r_max2 hx hy
theorem r_bytesStrSt {g o c : Nat} {l : List UInt8} {r : ByteArray} (hs : P.underlying t = some (.slice e)) (he : P.underlying e = some (.int .u8)) (hd : P.underlying t' = some .string) (hc : ∀ j (hj : j < l.length), w.cell? ⟨g, o + j, none⟩ = some (.int .u8 (l[j].toNat : Int))) (hr : (⟨l.toArray⟩ : ByteArray) = r) (hx : ρ x = .slice (some ⟨g, o, none⟩) l.length c) :
    (execOp ρ ⟨d, .convert t t' x, ty, pos, af, gd⟩).run P w = .ok (.value (.string r)) w := by
  subst hr
  simp only [execOp, hx, Sem.run_bind, run_convert_bytes_back w t t' e ⟨g, o, none⟩ c l hs he hd (fun j hj => by rw [add_lit]; exact hc j hj), Result.andThen_ok, Sem.run_pure]
theorem r_sliceArrL {g n sz : Nat} {l : Int} {xl : Operand} (hu : P.underlying t = some (.array n e)) (hs : ∀ w, (sizeOf e).run P w = .ok sz w) (hx : ρ x = .pointer (some ⟨g, 0, none⟩)) (hl : ρ xl = .int .i64 l) (h0 : 0 ≤ l) (h1 : l < n) :
    (execOp ρ ⟨d, .slice t x (some xl) none none, ty, pos, af, gd⟩).run P w = .ok (.value (.slice (some ⟨g, l.toNat * sz, none⟩) (n - l.toNat) (n - l.toNat))) w := by
  have e1 : l ≤ n := by omega
  have e2 : ¬ n = l.toNat := by omega
  simp [execOp, hx, hl, Instr.sliceAt, underlying, hu, Instr.sliceBounds, Instr.sliceBound, asIntOf, h0, e1, e2, hs, Int.toNat_of_nonneg, Instr.sureAddr, add_lit]
theorem r_concatE {s s' r : ByteArray} {x y : Operand} (hx : ρ x = .string s) (hy : ρ y = .string s') (h : s.size + s'.size ≤ 9223372036854775807) (he : s ++ s' = r) : (execOp ρ ⟨d, .binOp .add t x y t', ty, pos, af, gd⟩).run P w = .ok (.value (.string r)) w := by
  subst he; exact r_concat hx hy h
/-- A literal row of which the block is known. -/
theorem new_litG {α : Type} {K : Kd α} {len : Nat} {parts : Array (Nat × Operand)} {xs : List α} {cs : List Value} {ie : TypeInfo} {z : Value} (hu : P.underlying t = some (.slice e)) (hie : P.info? e = some ie) (hz : ie.zero = some z)
    (hsmall : (Nat.ble (len * ie.size) 16777216 && Nat.blt 0 (len * ie.size)) = true)
    (hf : Instr.fill (fun i => some (i * ie.size, ie.size)) ((Array.range (len * ie.size)).map (z.cells[· % z.cells.size]!)) (parts.map fun (i, x) => (i, ρ x)).toList = some cs.toArray)
    (hr : RowR K C xs cs) (hl : xs.length = len) (hH : Has w C) :
    ∃ g w' C', (execOp ρ ⟨d, .buildSlice t len parts, ty, pos, af, gd⟩).run P w = .ok (.value (.slice (some ⟨g, 0, none⟩) len len)) w' ∧ Sl K C' (some ⟨g, 0, none⟩) len xs ∧ Ext w.heap.size w C w' C' ∧ w.heap.size = g ∧ g < w'.heap.size := by
  simp only [Bool.and_eq_true] at hsmall
  have h1 := Nat.le_of_ble_eq_true hsmall.1
  have h2 := lt_of_blt hsmall.2
  have hb : len ≤ 16777216 := by
    rcases Nat.eq_zero_or_pos ie.size with h0 | h0
    · rw [h0] at h2; simp at h2
    · exact Nat.le_trans (Nat.le_mul_of_pos_right _ h0) h1
  refine ⟨w.heap.size, w.alloc (.cells cs.toArray e), commit C w.heap.size 0 cs, ?_, ?_, ?_, rfl, blk_lt' (heap_alloc_new w _)⟩
  · simp only [execOp, Sem.run_bind, run_buildSlice w t e len _ cs.toArray ie z hu hie hz (by omega) (by omega) hf, Result.andThen_ok, Sem.run_pure]
  · have hle : Gle C (commit C w.heap.size 0 cs) := commit_le fun k _ _ => hH.none k (Nat.le_refl _)
    exact Sl.of_row (hr.mono hle) (commit_seg _ _ _ _) (by omega) (by omega)
  · have hle : Gle C (commit C w.heap.size 0 cs) := commit_le fun k _ _ => hH.none k (Nat.le_refl _)
    refine ⟨(Below.refl _ w).alloc (Nat.le_refl _) _, commit_has (alloc_ext hH _).has fun i v hi => ?_, hle, fun b o hb => commit_ne _ _ _ (by omega) _⟩
    have hn := heap_alloc_new w (.cells cs.toArray e)
    simp only [World.cell?, hn, Nat.zero_add]
    simpa using hi
theorem freeze_mut (g k n : Nat) (hH : Has w C) : Mut g w C (w.freeze ⟨g, k, none⟩ n) C := by
  unfold World.freeze
  split
  · exact ⟨⟨rfl, rfl, rfl, Nat.le_refl _, fun _ _ _ => rfl⟩, hH, Gle.refl _, fun _ _ _ _ => rfl⟩
  · refine ⟨⟨rfl, rfl, rfl, by simp, fun k' _ hne => ?_⟩, fun b o v e => ?_, Gle.refl _, fun _ _ _ _ => rfl⟩
    · have : g ≠ k' := fun e => hne (by rw [e])
      simp [Array.getElem?_modify, this]
    · by_cases hb : b = g
      · subst hb
        have := hH b o v e
        simp only [World.cell?] at this ⊢
        rw [Array.getElem?_modify, if_pos rfl]
        cases hq : w.heap[b]? with
        | none => rw [hq] at this; simp at this
        | some ob =>
          rw [hq] at this
          cases ob with
          | cells c e' fr => simpa using this
          | _ => simp at this
      · rw [World.cell?_of_block (w := w) (by simp [Array.getElem?_modify, Ne.symm hb])]
        exact hH b o v e
/-- Bytes that are called bytes: a mark alone. -/
theorem new_convSame {g n c : Nat} (hs : P.underlying t = some (.slice e)) (he : P.underlying e = some (.int .u8)) (hx : ρ x = .slice (some ⟨g, 0, none⟩) n c) (hH : Has w C) :
    ∃ w', (execOp ρ ⟨d, .convert t t x, ty, pos, af, gd⟩).run P w = .ok (.value (.slice (some ⟨g, 0, none⟩) n c)) w' ∧ Mut g w C w' C := by
  have hrun : ∃ w', (convert t t (.slice (some ⟨g, 0, none⟩) n c)).run P w = .ok (.slice (some ⟨g, 0, none⟩) n c) w' ∧ Mut g w C w' C := by
    cases hq : w.shape? g with
    | none => exact ⟨w, by simp [convert, run_underlying hs, run_underlying he, markStringish, hq], ⟨⟨rfl, rfl, rfl, Nat.le_refl _, fun _ _ _ => rfl⟩, hH, Gle.refl _, fun _ _ _ _ => rfl⟩⟩
    | some p => exact ⟨w.freeze ⟨g, p.2, none⟩ 1, by simp [convert, run_underlying hs, run_underlying he, markStringish, hq], freeze_mut _ _ _ hH⟩
  obtain ⟨w', h1, h2⟩ := hrun
  exact ⟨w', by simp only [execOp, hx, Sem.run_bind, h1, Result.andThen_ok, Sem.run_pure], h2⟩
end
section
variable {P : Program} {N : Nat} {Q : Exit → Fr → World → Prop} {T : Fr} {w : World} {ops : Array Oper} {o : Oper} {C : Gh} {t e : TypeId} {d : Nat} {x : Operand}
theorem FWl.litG {α : Type} {K : Kd α} {len : Nat} {parts : Array (Nat × Operand)} {xs : List α} {cs : List Value} {ie : TypeInfo} {z : Value} {l : List Oper} (ho : o.op = .buildSlice t len parts) (hd : o.dst = some d) (hw : wantedF ops T o = true) (hu : P.underlying t = some (.slice e)) (hie : P.info? e = some ie) (hz : ie.zero = some z)
    (hsmall : (Nat.ble (len * ie.size) 16777216 && Nat.blt 0 (len * ie.size)) = true)
    (hf : Instr.fill (fun i => some (i * ie.size, ie.size)) ((Array.range (len * ie.size)).map (z.cells[· % z.cells.size]!)) (parts.map fun (i, x) => (i, ev T x)).toList = some cs.toArray)
    (hr : RowR K C xs cs) (hl : xs.length = len) (hH : Has w C)
    (h : ∀ g w' C', Sl K C' (some ⟨g, 0, none⟩) len xs → Ext w.heap.size w C w' C' → w.heap.size = g → g < w'.heap.size → FWl P N ops Q l (upd T d (.slice (some ⟨g, 0, none⟩) len len)) w') : FWl P N ops Q (o :: l) T w := by
  obtain ⟨dst, op, ty, pos, af, gd⟩ := o; cases ho
  obtain ⟨g, w', C', hrun, h1, h2, h3, h4⟩ := new_litG (P := P) (ρ := ev T) (d := dst) (ty := ty) (pos := pos) (af := af) (gd := gd) hu hie hz hsmall hf hr hl hH
  exact FWl.val d hd hw _ _ hrun (h g w' C' h1 h2 h3 h4)
theorem FWl.convSame {g n c : Nat} {l : List Oper} (ho : o.op = .convert t t x) (hd : o.dst = some d) (hw : wantedF ops T o = true) (hs : P.underlying t = some (.slice e)) (he : P.underlying e = some (.int .u8)) (hx : ev T x = .slice (some ⟨g, 0, none⟩) n c) (hH : Has w C)
    (h : ∀ w', Mut g w C w' C → FWl P N ops Q l (upd T d (.slice (some ⟨g, 0, none⟩) n c)) w') : FWl P N ops Q (o :: l) T w := by
  obtain ⟨dst, op, ty, pos, af, gd⟩ := o; cases ho
  obtain ⟨w', hrun, h1⟩ := new_convSame (P := P) (ρ := ev T) (d := dst) (ty := ty) (pos := pos) (af := af) (gd := gd) hs he hx hH
  exact FWl.val d hd hw _ _ hrun (h w' h1)
end
end Go.Proofs.Ytlofomkhiefbmaa
