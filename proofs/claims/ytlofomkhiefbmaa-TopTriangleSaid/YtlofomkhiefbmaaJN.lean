/- A string laid behind bytes that are written in place. -/
import Derived.Test.YtlofomkhiefbmaaJM
import Derived.Lib.AppendStr
import Derived.Lib.UnsafeStr
import Derived.Lib.Builder
import Derived.Laws.Pointers
import Derived.Laws.Externs
set_option linter.unusedVariables false
set_option linter.unusedSimpArgs false
namespace Go.Proofs.Ytlofomkhiefbmaa
open Go.RowKit
/-- A string's bytes, as a row's elements. -/
def bRows (s : ByteArray) : List (List Value) := s.data.toList.map fun b => [Value.int .u8 b.toNat]
theorem bRows_len (s : ByteArray) : (bRows s).length = s.size := by rw [bRows, List.length_map, Array.length_toList]; rfl
theorem bRows_flat (s : ByteArray) : (bRows s).flatten = Lib.strCells s := by
  unfold bRows Lib.strCells
  induction s.data.toList with
  | nil => rfl
  | cons b l ih => simp only [List.map_cons, List.flatten_cons, ih]; rfl
section
variable {P : Program} {ρ : Operand → Value} {d : Option Tmp} {ty : TypeId} {pos : String} {af : Array Edge} {gd : Option (Nat × Bool)} {w : World}
theorem r_appendStr {C : Gh} {B e t u : Nat} {ie : TypeInfo} {A : Option Addr} {c : Nat} {rows : List (List Value)} {s : ByteArray} {x x2 : Operand}
    (ht : P.underlying t = some (.slice e)) (hu : P.underlying u = some .string) (hi : P.info? e = some ie) (hz : ie.zero = some (.int .u8 0)) (hsz : ie.size = 1) (hby : ie.bytes = 1)
    (hx : ρ x = .slice A rows.length c) (hy : ρ x2 = .string s) (h : MRow B e 1 w C A c rows) (hH : Has w C) (hB : B ≤ w.heap.size) (hlen : rows.length + s.size ≤ 140737488355328) :
    ∃ A' c' w', (execOp ρ ⟨d, .call { callee := .builtin .append, args := #[x, x2], argTypes := #[t, u] }, ty, pos, af, gd⟩).run P w = .ok (.value (.slice A' (rows ++ bRows s).length c')) w' ∧ MRow B e 1 w' C A' c' (rows ++ bRows s) ∧
      Ext B w C w' C ∧ (∀ k cs t', St w C k cs t' → t' ≠ e → St w' C k cs t') ∧ (∀ B2 e2 sz2 A3 n3 c3, Own B2 e2 sz2 w C A3 n3 c3 → e2 ≠ e → Own B2 e2 sz2 w' C A3 n3 c3) ∧ (∀ k, k < w.heap.size → (∀ cs, ¬ St w C k cs e) → w'.heap[k]? = w.heap[k]?) := by
  have hown : w.ownsRow B e 1 (.slice A rows.length c) rows.length rows.flatten := by
    rcases h with ⟨rfl, rfl, rfl⟩ | ⟨g, spare, rfl, h2, h3, h4, h5, h6, h7⟩
    · exact World.ownsRow_nil _ _ _ _
    · have hfl := flatten_len (fun r hr => (h7 r hr).1)
      exact ⟨hfl, .inr ⟨g, c, _, rfl, h2, h3.blk, h4, by simp only [maxLen]; omega, by simpa using h6, by rw [← hfl]; simp⟩⟩
  obtain ⟨v', w', hrun, hown', hgr, _⟩ := Lib.run_append_own_string (P := P) w B t u ty e ie ht hu hi hz hsz hby (.slice A rows.length c) rows.length rows.flatten hown s (by simp only [maxLen]; omega) (by omega) hB
  have hat : v'.ownBlock = (Value.slice A rows.length c).ownBlock ∨ v'.ownBlock = some w.heap.size := by
    rcases h with ⟨rfl, rfl, rfl⟩ | ⟨g, spare, rfl, h2, h3, h4, h5, h6, h7⟩
    · by_cases hm : s.size = 0
      · left
        have hf := Lib.run_firstCells_string (P := P) w 1 s
        rw [hm] at hf
        have : (Builtin.append_ #[t, u] ty #[.slice none 0 0, .string s]).run P w = .ok (.slice none 0 0) w := by
          simp [Builtin.append_, run_underlying ht, run_underlying hu, sizeOf, typeInfo, hi, hsz, Builtin.lenOf, hm, hf]
        have e := this.symm.trans hrun
        injection e with e1 e2
        rw [← e1]; rfl
      · right
        have hr := run_append_nil_string (P := P) w t u ty e ie (.int .u8 0) ht hu hi hz s (by omega) (by omega) (by rw [hby]; simp at hlen; omega)
        have e := hr.symm.trans hrun
        injection e with e1 e2
        rw [← e1]; rfl
    · have hfl := flatten_len (fun r hr => (h7 r hr).1)
      by_cases hroom : rows.length + s.size ≤ c
      · left
        have hsz2 : (rows.flatten ++ spare).toArray.size = c := by rw [List.size_toArray, h6]; omega
        have hr := Lib.run_append_room_string (P := P) w t u ty e ie ht hu hi hsz g rows.length c _ h3.blk s hroom (by rw [hsz2]; exact hroom)
        have e := hr.symm.trans hrun
        injection e with e1 e2
        rw [← e1]; rfl
      · right
        have holds : ∀ j u, rows.flatten[j]? = some u → w.cell? ((⟨g, 0, none⟩ : Addr).add j) = some u := hown.cells (g := g) rfl
        have hr := Lib.run_append_grow_string (P := P) w t u ty e ie (.int .u8 0) ht hu hi hz ⟨g, 0, none⟩ rows.length c rows.flatten (by rw [hsz]; exact hfl) holds s (by omega) (by omega) (by rw [hby]; exact growslice_fits (by omega) (by omega))
        have e := hr.symm.trans hrun
        injection e with e1 e2
        rw [← e1]; rfl
  have hblk : ∀ k, (Value.slice A rows.length c).ownBlock = some k → B ≤ k ∧ ∃ cs, St w C k cs e := by
    intro k hk
    rcases h with ⟨rfl, rfl, rfl⟩ | ⟨g, spare, rfl, h2, h3, _⟩
    · simp [Value.ownBlock] at hk
    · simp [Value.ownBlock] at hk
      subst hk
      exact ⟨h2, _, h3⟩
  have hne : ∀ k cs t', St w C k cs t' → t' ≠ e → some k ≠ (Value.slice A rows.length c).ownBlock := fun k cs t' hs hne' he => by
    obtain ⟨_, cs', hs'⟩ := hblk k he.symm
    exact hs.ne_type hs' hne' rfl
  have hHas : Has w' C := fun b o v hv => by
    refine (World.cell?_of_block (w := w) (hgr.block b (hH.lt hv) (fun he => ?_))).trans (hH _ _ _ hv)
    obtain ⟨_, cs', hs'⟩ := hblk b he.symm
    rw [hs'.un o] at hv
    cases hv
  obtain ⟨hl', hform⟩ := hown'
  rcases hform with ⟨hv0, hn0⟩ | ⟨g, cap, cur, rfl, hgB, hg', hnc, hcm, hcs, htake⟩
  · have hr0 : rows = [] := List.eq_nil_of_length_eq_zero (by omega)
    have hs0 : s.size = 0 := by omega
    have hb0 : bRows s = [] := List.eq_nil_of_length_eq_zero (by rw [bRows_len]; exact hs0)
    subst hv0
    refine ⟨none, 0, w', ?_, .inl ⟨rfl, rfl, by rw [hr0, hb0]; rfl⟩, ?_, fun k cs t' hs hne' => ?_, fun B2 e2 sz2 A3 n3 c3 ho3 hne3 => ?_, fun k hk hn => hgr.block k hk fun he => ?_⟩
    · rw [hr0, hb0]
      simp [execOp, resolve, invoke, builtin, hx, hy, hrun]
    · exact ⟨⟨hgr.os, hgr.tape, hgr.output, hgr.size, fun k hk => hgr.block k (by omega) (fun he => by have := (hblk k he.symm).1; omega)⟩, hHas, Gle.refl _, fun _ _ _ => rfl⟩
    · exact ⟨(hgr.block k hs.lt (hne k cs t' hs hne')).trans hs.blk, hs.un⟩
    · refine ⟨ho3.le, fun hl => ?_⟩
      obtain ⟨g3, o3, cs3, k1, k2, k3, k4⟩ := ho3.sp hl
      refine ⟨g3, o3, cs3, k1, k2, (hgr.block g3 (blk_lt' k3) (fun he => ?_)).trans k3, k4⟩
      obtain ⟨_, cs', hs'⟩ := hblk g3 he.symm
      have := k3.symm.trans hs'.blk
      simp only [Option.some.injEq, Obj.cells.injEq] at this
      exact hne3 this.2.1
    · obtain ⟨_, cs', hs'⟩ := hblk k he.symm
      exact hn _ hs'
  have hun : ∀ o, C g o = none := fun o => by
    rcases hat with hat | hat
    · obtain ⟨_, cs', hs'⟩ := hblk g (by rw [← hat]; rfl)
      exact hs'.un o
    · have : g = w.heap.size := by simpa [Value.ownBlock] using hat
      exact hH.none o (by omega)
  have hrows : ∀ r' ∈ rows ++ bRows s, r'.length = 1 ∧ ∀ v ∈ r', v.oneCell' = true := fun r' hr' => by
    rcases List.mem_append.1 hr' with hr' | hr'
    · rcases h with ⟨_, _, rfl⟩ | ⟨g, spare, rfl, h2, h3, h4, h5, h6, h7⟩
      · simp at hr'
      · exact h7 r' hr'
    · obtain ⟨v, _, rfl⟩ := List.mem_map.1 hr'
      exact ⟨rfl, fun u hu => by rw [List.mem_singleton.1 hu]; rfl⟩
  refine ⟨some ⟨g, 0, none⟩, cap, w', ?_, .inr ⟨g, cur.toList.drop ((rows.length + s.size) * 1), rfl, hgB, ⟨?_, hun⟩, ?_, ?_, ?_, hrows⟩, ?_, fun k cs t' hs hne' => ?_, fun B2 e2 sz2 A3 n3 c3 ho3 hne3 => ?_, fun k hk hn => hgr.block k hk fun he => ?_⟩
  · rw [List.length_append, bRows_len]
    simp [execOp, resolve, invoke, builtin, hx, hy, hrun]
  · rw [hg']
    have : (rows ++ bRows s).flatten = rows.flatten ++ Lib.strCells s := by rw [List.flatten_append, bRows_flat]
    rw [this, ← htake, List.take_append_drop]
  · rw [List.length_append, bRows_len]; exact hnc
  · simpa only [maxLen] using hcm
  · have : (rows ++ bRows s).flatten = rows.flatten ++ Lib.strCells s := by rw [List.flatten_append, bRows_flat]
    rw [this, ← htake, List.take_append_drop]
    simpa using hcs
  · exact ⟨⟨hgr.os, hgr.tape, hgr.output, hgr.size, fun k hk => hgr.block k (by omega) (fun he => by have := (hblk k he.symm).1; omega)⟩, hHas, Gle.refl _, fun _ _ _ => rfl⟩
  · exact ⟨(hgr.block k hs.lt (hne k cs t' hs hne')).trans hs.blk, hs.un⟩
  · refine ⟨ho3.le, fun hl => ?_⟩
    obtain ⟨g3, o3, cs3, k1, k2, k3, k4⟩ := ho3.sp hl
    refine ⟨g3, o3, cs3, k1, k2, (hgr.block g3 (blk_lt' k3) (fun he => ?_)).trans k3, k4⟩
    obtain ⟨_, cs', hs'⟩ := hblk g3 he.symm
    have := k3.symm.trans hs'.blk
    simp only [Option.some.injEq, Obj.cells.injEq] at this
    exact hne3 this.2.1
  · obtain ⟨_, cs', hs'⟩ := hblk k he.symm
    exact hn _ hs'
/-! ### pointers -/
theorem r_eqlPtrNil {t t' : TypeId} {x y : Operand} {q : Option Addr} (hu : P.underlying t = some (.pointer (P.pointee t))) (hx : ρ x = .pointer q) (hy : ρ y = .pointer none) :
    (execOp ρ ⟨d, .binOp .eql t x y t', ty, pos, af, gd⟩).run P w = .ok (.value (.bool q.isNone)) w := by
  simp [execOp, hx, hy, eqGuard, run_eql_pointer_nil w t q hu]
theorem r_neqPtrSame {t t' te : TypeId} {j : TypeInfo} {x y : Operand} {a : Addr} (hu : P.underlying t = some (.pointer te)) (hte : P.info? te = some j) (hx : ρ x = .pointer (some a)) (hy : ρ y = .pointer (some a)) :
    (execOp ρ ⟨d, .binOp .neq t x y t', ty, pos, af, gd⟩).run P w = .ok (.value (.bool false)) w := by
  simp [execOp, hx, hy, eqGuard, Lib.run_neq_ptr_same w a hu hte]
theorem r_toUnsafe {src dst t e : TypeId} {j : TypeInfo} {x : Operand} {C : Gh} {g : Nat} {cs : List Value} (hs : P.underlying src = some (.pointer t)) (hd : P.underlying dst = some .unsafePointer) (ht : P.info? t = some j) (hj : j.size ≠ 0) (hst : St w C g cs e) (hc : 0 < cs.length) (hx : ρ x = .pointer (some ⟨g, 0, none⟩)) :
    (execOp ρ ⟨d, .convert src dst x, ty, pos, af, gd⟩).run P w = .ok (.value (.pointer (some ⟨g, 0, none⟩))) w := by
  have hsh : w.shape? g = some (e, cs.length) := by simp [World.shape?, hst.blk]
  simp only [execOp, hx, Sem.run_bind, Lib.run_to_unsafe w ⟨g, 0, none⟩ hs hd ht hj hsh hc, Result.andThen_ok, Sem.run_pure]
theorem r_fromUnsafe {src dst u e : TypeId} {j : TypeInfo} {x : Operand} {C : Gh} {g : Nat} {cs : List Value} (hs : P.underlying src = some .unsafePointer) (hd : P.underlying dst = some (.pointer u)) (hu : P.info? u = some j) (hst : St w C g cs e) (hl : liesAt P P.depth e (cs.length / P.cellsOf e) 0 u 1 = true) (hx : ρ x = .pointer (some ⟨g, 0, none⟩)) :
    (execOp ρ ⟨d, .convert src dst x, ty, pos, af, gd⟩).run P w = .ok (.value (.pointer (some ⟨g, 0, none⟩))) w := by
  have hsh : w.shape? g = some (e, cs.length) := by simp [World.shape?, hst.blk]
  simp only [execOp, hx, Sem.run_bind, Lib.run_from_unsafe w ⟨g, 0, none⟩ hs hd hu hsh hl, Result.andThen_ok, Sem.run_pure]
theorem r_noEscape {f : FuncId} {fn : Func} {ts : Array TypeId} {x : Operand} {v : Value} (hf : P.funcs[f]? = some fn) (hname : (fn.name == "runtime.NumGoroutine") = false) (hb : fn.body.isNone = true) (hn : Extern.findNext fn = none) (he : Extern.find fn = some Extern.AbiNoEscape.same) (hfv : ρ (.func f) = .func (.func f) #[] #[]) (hx : ρ x = v) :
    (execOp ρ ⟨d, .call { callee := .value (.func f), args := #[x], argTypes := ts }, ty, pos, af, gd⟩).run P w = .ok (.value v) w := by
  have h := run_callFunc_extern hf hname hb hn he #[v] w
  rw [Lib.run_noEscape] at h
  simp [execOp, resolve, hfv, Deferred.ofValue, invoke, hx, h]
end
section
variable {P : Program} {N : Nat} {Q : Exit → Fr → World → Prop} {T : Fr} {w : World} {ops : Array Oper} {o : Oper} {C : Gh} {B e t u d : Nat} {ie : TypeInfo} {A : Option Addr} {c : Nat} {rows : List (List Value)} {s : ByteArray} {x x2 : Operand}
theorem FWl.appStr {l : List Oper} (ho : o.op = .call { callee := .builtin .append, args := #[x, x2], argTypes := #[t, u] }) (hd : o.dst = some d) (hw : wantedF ops T o = true)
    (ht : P.underlying t = some (.slice e)) (hu : P.underlying u = some .string) (hi : P.info? e = some ie) (hz : ie.zero = some (.int .u8 0)) (hsz : ie.size = 1) (hby : ie.bytes = 1)
    (hx : ev T x = .slice A rows.length c) (hy : ev T x2 = .string s) (h : MRow B e 1 w C A c rows) (hH : Has w C) (hB : B ≤ w.heap.size) (hlen : rows.length + s.size ≤ 140737488355328)
    (k : ∀ A' c' w', MRow B e 1 w' C A' c' (rows ++ bRows s) → Ext B w C w' C → (∀ k cs t', St w C k cs t' → t' ≠ e → St w' C k cs t') → (∀ B2 e2 sz2 A3 n3 c3, Own B2 e2 sz2 w C A3 n3 c3 → e2 ≠ e → Own B2 e2 sz2 w' C A3 n3 c3) →
      FWl P N ops Q l (upd T d (.slice A' (rows ++ bRows s).length c')) w') : FWl P N ops Q (o :: l) T w := by
  obtain ⟨dst, op, ty, pos, af, gd⟩ := o; cases ho
  obtain ⟨A', c', w', k1, k2, k3, k4, k5, _⟩ := r_appendStr (P := P) (ρ := ev T) (d := dst) (ty := ty) (pos := pos) (af := af) (gd := gd) ht hu hi hz hsz hby hx hy h hH hB hlen
  exact FWl.val d hd hw _ _ k1 (k A' c' w' k2 k3 k4 k5)
end
section
variable {P : Program} {ρ : Operand → Value} {d : Option Tmp} {ty : TypeId} {pos : String} {af : Array Edge} {gd : Option (Nat × Bool)} {w : World} {C : Gh} {t t' e : TypeId} {x : Operand}
theorem rowR_bytes (C : Gh) (l : List UInt8) : RowR (kInt .u8) C (bt l) (Lib.byteCells l) := by
  induction l with
  | nil => exact .nil
  | cons b l ih => exact .cons (cs := [.int .u8 (b.toNat : Int)]) rfl ih
/-- '[]byte(s)': the bytes are committed at once. -/
theorem new_strBytes {l : List UInt8} (hs : P.underlying t = some .string) (hd : P.underlying t' = some (.slice e)) (he : P.underlying e = some (.int .u8)) (hx : ρ x = .string ⟨l.toArray⟩) (hl : l.length ≤ 140737488355328) (hH : Has w C) :
    ∃ A c w' C', (execOp ρ ⟨d, .convert t t' x, ty, pos, af, gd⟩).run P w = .ok (.value (.slice A l.length c)) w' ∧ Sl (kInt .u8) C' A c (bt l) ∧ Ext w.heap.size w C w' C' := by
  have hrun := run_bytes_of_string (P := P) w t t' e ⟨l.toArray⟩ hs hd he
  have hsz : (⟨l.toArray⟩ : ByteArray).size = l.length := by simp [ByteArray.size]
  rw [hsz] at hrun
  have hge := grownCap_ge w l.length 0 e
  have hle : Gle C (commit C w.heap.size 0 (Lib.byteCells l)) := commit_le fun k _ _ => hH.none k (Nat.le_refl _)
  have hbl : (bt l).length = l.length := by simp [bt]
  refine ⟨_, _, w.drew.alloc (.cells (bytesRow ⟨l.toArray⟩ (grownCap w l.length 0 e)) e ((bytesRow ⟨l.toArray⟩ (grownCap w l.length 0 e)).size, (bytesRow ⟨l.toArray⟩ (grownCap w l.length 0 e)).size + 1)), commit C w.heap.size 0 (Lib.byteCells l), ?_, Sl.of_row (rowR_bytes _ l) (commit_seg _ _ _ _) (by rw [hbl]; exact hge) (by rw [hbl]; exact hl), ?_⟩
  · simp only [execOp, hx, Sem.run_bind, hrun, Result.andThen_ok, Sem.run_pure]
  · refine ⟨(Below.refl _ w).drew.alloc (Nat.le_refl _) _, commit_has (Ext.alloc (Ext.drew (Ext.refl (B := w.heap.size) hH)) (Nat.le_refl _) _).has fun i v hi => ?_, hle, fun b o hb => commit_ne _ _ _ (by omega) _⟩
    have hn := World.cell?_alloc_mark w.drew (bytesRow ⟨l.toArray⟩ (grownCap w l.length 0 e)) e ((bytesRow ⟨l.toArray⟩ (grownCap w l.length 0 e)).size, (bytesRow ⟨l.toArray⟩ (grownCap w l.length 0 e)).size + 1) i
    rw [Nat.zero_add]
    refine hn.trans ?_
    have hil : i < l.length := by have := (List.getElem?_eq_some_iff.1 hi).1; simpa [Lib.byteCells] using this
    rw [bytesRow, Array.getElem?_append_left (by simpa using hil)]
    simpa [Lib.byteCells] using hi
end
section
variable {P : Program} {N : Nat} {Q : Exit → Fr → World → Prop} {T : Fr} {w : World} {ops : Array Oper} {o : Oper} {C : Gh} {t t' e d : Nat} {x : Operand}
theorem FWl.strBytes {l : List UInt8} {r : List Oper} (ho : o.op = .convert t t' x) (hd : o.dst = some d) (hw : wantedF ops T o = true) (hs : P.underlying t = some .string) (hd' : P.underlying t' = some (.slice e)) (he : P.underlying e = some (.int .u8)) (hx : ev T x = .string ⟨l.toArray⟩) (hl : l.length ≤ 140737488355328) (hH : Has w C)
    (h : ∀ A c w' C', Sl (kInt .u8) C' A c (bt l) → Ext w.heap.size w C w' C' → FWl P N ops Q r (upd T d (.slice A l.length c)) w') : FWl P N ops Q (o :: r) T w := by
  obtain ⟨dst, op, ty, pos, af, gd⟩ := o; cases ho
  obtain ⟨A, c, w', C', hrun, h1, h2⟩ := new_strBytes (P := P) (ρ := ev T) (d := dst) (ty := ty) (pos := pos) (af := af) (gd := gd) hs hd' he hx hl hH
  exact FWl.val d hd hw _ _ hrun (h A c w' C' h1 h2)
end
theorem r_sliceStrE {P : Program} {ρ : Operand → Value} {d : Option Tmp} {ty : TypeId} {pos : String} {af : Array Edge} {gd : Option (Nat × Bool)} {w : World} {t : TypeId} {s r : ByteArray} {l h : Int} {x xl xh : Operand} (hu : P.underlying t = some .string) (hx : ρ x = .string s) (hl : ρ xl = .int .i64 l) (hh : ρ xh = .int .i64 h) (h0 : 0 ≤ l) (h1 : l ≤ h) (h3 : h ≤ s.size) (he : s.extract l.toNat h.toNat = r) :
    (execOp ρ ⟨d, .slice t x (some xl) (some xh) none, ty, pos, af, gd⟩).run P w = .ok (.value (.string r)) w := by subst he; exact r_sliceStr hu hx hl hh h0 h1 h3
end Go.Proofs.Ytlofomkhiefbmaa
