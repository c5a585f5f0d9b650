/- Rows of one's own whose elements are written in place. -/
import Derived.Test.YtlofomkhiefbmaaJG
import Derived.Maps.AppendAt
set_option linter.unusedVariables false
set_option linter.unusedSimpArgs false
namespace Go.Proofs.Ytlofomkhiefbmaa
open Go.RowKit
/-- A row that is not committed: its elements' cells are known, and may be written. -/
def MRow (B e sz : Nat) (w : World) (C : Gh) (A : Option Addr) (c : Nat) (rows : List (List Value)) : Prop :=
  (A = none ∧ c = 0 ∧ rows = []) ∨ ∃ g spare, A = some ⟨g, 0, none⟩ ∧ B ≤ g ∧ St w C g (rows.flatten ++ spare) e ∧ rows.length ≤ c ∧ c ≤ 9223372036854775807 ∧ (rows.flatten ++ spare).length = c * sz ∧ ∀ r ∈ rows, r.length = sz ∧ ∀ v ∈ r, v.oneCell' = true
theorem MRow.nil {B e sz : Nat} {w : World} {C : Gh} : MRow B e sz w C none 0 [] := .inl ⟨rfl, rfl, rfl⟩
theorem MRow.call {B e sz : Nat} {w w' : World} {C C' : Gh} {A : Option Addr} {c : Nat} {rows : List (List Value)} (h : MRow B e sz w C A c rows) (x : Ext w.heap.size w C w' C') : MRow B e sz w' C' A c rows := by
  rcases h with h | ⟨g, spare, h1, h2, h3, h4⟩
  · exact .inl h
  · exact .inr ⟨g, spare, h1, h2, h3.call x, h4⟩
theorem MRow.drew {B e sz : Nat} {w : World} {C : Gh} {A : Option Addr} {c : Nat} {rows : List (List Value)} (h : MRow B e sz w C A c rows) : MRow B e sz w.drew C A c rows := by
  rcases h with h | ⟨g, spare, h1, h2, h3, h4⟩
  · exact .inl h
  · exact .inr ⟨g, spare, h1, h2, h3.drew, h4⟩
theorem St.ne_type {w : World} {C C1 : Gh} {g g' : Nat} {cs cs' : List Value} {t t' : TypeId} (h : St w C g cs t) (h' : St w C1 g' cs' t') (hne : t ≠ t') : g ≠ g' := fun e => by
  subst e
  have := h.blk.symm.trans h'.blk
  simp only [Option.some.injEq, Obj.cells.injEq] at this
  exact hne this.2.1
theorem Own.nbT {B e sz : Nat} {w : World} {C C1 : Gh} {A : Option Addr} {n c g : Nat} {cs : List Value} {t : TypeId} (h : Own B e sz w C A n c) (st : St w C1 g cs t) (hne : e ≠ t) : Nb A n c g := fun hl a ha => by
  obtain ⟨g', o, cs', h1, _, h3, _⟩ := h.sp hl
  rw [h1] at ha
  cases ha
  intro e'
  simp only at e'
  subst e'
  have := h3.symm.trans st.blk
  simp only [Option.some.injEq, Obj.cells.injEq] at this
  exact hne this.2.1
theorem MRow.other {B e sz : Nat} {w w' : World} {C C' : Gh} {A : Option Addr} {c g : Nat} {rows : List (List Value)} {cs : List Value} {t : TypeId} (h : MRow B e sz w C A c rows) (m : Mut g w C w' C') (st : St w C g cs t) (hne : e ≠ t) : MRow B e sz w' C' A c rows := by
  rcases h with h | ⟨g', spare, h1, h2, h3, h4⟩
  · exact .inl h
  · exact .inr ⟨g', spare, h1, h2, h3.other m (h3.ne_type st hne), h4⟩
theorem MRow.app {B B2 e e2 sz sz2 : Nat} {w w' : World} {C C' : Gh} {A A2 A' : Option Addr} {c n2 c2 n' c' : Nat} {rows : List (List Value)} (h : MRow B e sz w C A c rows) (m : App A2 n2 c2 w C A' n' c' w' C') (ho : Own B2 e2 sz2 w C A2 n2 c2) (hne : e2 ≠ e) : MRow B e sz w' C' A c rows := by
  rcases h with h | ⟨g', spare, h1, h2, h3, h4⟩
  · exact .inl h
  · exact .inr ⟨g', spare, h1, h2, h3.app m (ho.nbT h3 hne), h4⟩
theorem flatten_at {rows : List (List Value)} {sz : Nat} (hs : ∀ r ∈ rows, r.length = sz) {i j : Nat} {r : List Value} {v : Value} (hi : rows[i]? = some r) (hj : r[j]? = some v) : rows.flatten[i * sz + j]? = some v := by
  induction rows generalizing i with
  | nil => simp at hi
  | cons r0 rows ih =>
    have h0 := hs r0 (by simp)
    cases i with
    | zero =>
      simp only [List.getElem?_cons_zero, Option.some.injEq] at hi
      subst hi
      have : j < r0.length := (List.getElem?_eq_some_iff.1 hj).1
      rw [List.flatten_cons, Nat.zero_mul, Nat.zero_add, List.getElem?_append_left this]
      exact hj
    | succ i =>
      simp only [List.getElem?_cons_succ] at hi
      rw [List.flatten_cons, List.getElem?_append_right (by rw [h0, Nat.succ_mul]; omega), h0, show (i + 1) * sz + j - sz = i * sz + j by rw [Nat.succ_mul]; omega]
      exact ih (fun r hr => hs r (by simp [hr])) hi
theorem flatten_len {rows : List (List Value)} {sz : Nat} (hs : ∀ r ∈ rows, r.length = sz) : rows.flatten.length = rows.length * sz := by
  induction rows with
  | nil => simp
  | cons r rows ih => rw [List.flatten_cons, List.length_append, hs r (by simp), ih (fun r hr => hs r (by simp [hr])), List.length_cons, Nat.succ_mul]; omega
theorem MRow.len {B e sz : Nat} {w : World} {C : Gh} {A : Option Addr} {c : Nat} {rows : List (List Value)} (h : MRow B e sz w C A c rows) : rows.length ≤ c := by
  rcases h with ⟨_, _, rfl⟩ | ⟨g, spare, _, _, _, h, _⟩
  · simp
  · exact h
theorem MRow.isSome {B e sz : Nat} {w : World} {C : Gh} {A : Option Addr} {c : Nat} {rows : List (List Value)} (h : MRow B e sz w C A c rows) (hn : 0 < rows.length) : A.isSome = true := by
  rcases h with ⟨_, _, rfl⟩ | ⟨g, spare, rfl, _⟩
  · simp at hn
  · rfl
/-- The cells of an element. -/
theorem MRow.at_ {B e sz : Nat} {w : World} {C : Gh} {A : Option Addr} {c : Nat} {rows : List (List Value)} (h : MRow B e sz w C A c rows) {i : Nat} {r : List Value} (hi : rows[i]? = some r) :
    ∃ g cs, A = some ⟨g, 0, none⟩ ∧ B ≤ g ∧ St w C g cs e ∧ ∀ j v, r[j]? = some v → cs[i * sz + j]? = some v := by
  rcases h with ⟨_, _, rfl⟩ | ⟨g, spare, h1, h2, h3, h4, h5, h6, h7⟩
  · simp at hi
  · refine ⟨g, _, h1, h2, h3, fun j v hj => ?_⟩
    have := flatten_at (fun r hr => (h7 r hr).1) hi hj
    rw [List.getElem?_append_left (List.getElem?_eq_some_iff.1 this).1]
    exact this
section
variable {P : Program} {ρ : Operand → Value} {d : Option Tmp} {ty : TypeId} {pos : String} {af : Array Edge} {gd : Option (Nat × Bool)} {w : World}
theorem r_loadM1 {x : Operand} {t : TypeId} {B e sz : Nat} {C : Gh} {A : Option Addr} {c i j : Nat} {rows : List (List Value)} {r : List Value} {v : Value} (ha : ∀ w, (isAgg t).run P w = .ok false w) (h : MRow B e sz w C A c rows) (hi : rows[i]? = some r) (hj : r[j]? = some v)
    (hx : ρ x = ptrAt A (i * sz + j)) : (execOp ρ ⟨d, .load t x, ty, pos, af, gd⟩).run P w = .ok (.value v) w := by
  obtain ⟨g, cs, rfl, _, h3, h4⟩ := h.at_ hi
  exact r_load1 ha (a := ⟨g, 0 + (i * sz + j), none⟩) (by rw [hx]; simp [ptrAt, add_lit]) (by rw [Nat.zero_add]; exact h3.cell (h4 j v hj))
theorem r_loadMN {x : Operand} {t : TypeId} {B e sz : Nat} {C : Gh} {A : Option Addr} {c i : Nat} {rows : List (List Value)} {r : List Value} (ha : ∀ w, (isAgg t).run P w = .ok true w) (hs : ∀ w, (sizeOf t).run P w = .ok r.length w) (h : MRow B e sz w C A c rows) (hi : rows[i]? = some r)
    (hx : ρ x = ptrAt A (i * sz)) : (execOp ρ ⟨d, .load t x, ty, pos, af, gd⟩).run P w = .ok (.value (.agg r.toArray)) w := by
  obtain ⟨g, cs, rfl, _, h3, h4⟩ := h.at_ hi
  refine r_loadN ha hs (a := ⟨g, 0 + i * sz, none⟩) (by rw [hx]; simp [ptrAt, add_lit]) fun j v hj => ?_
  rw [add_lit, Nat.zero_add]
  exact h3.cell (h4 j v hj)
/-- What is read in a region that draws: M holds of the row's block. -/
theorem SS.mrow {C C1 : Gh} {M : Nat → Prop} {WS w' : World} {B e sz : Nat} {A : Option Addr} {c : Nat} {rows : List (List Value)} (h : SS C M WS w') (m : MRow B e sz WS C1 A c rows) (hM : ∀ g cs, St WS C1 g cs e → M g) : MRow B e sz w' (fun _ _ => none) A c rows := by
  rcases m with m | ⟨g, spare, h1, h2, h3, h4⟩
  · exact .inl m
  · exact .inr ⟨g, spare, h1, h2, ⟨(h.blk g h3.lt (hM g _ h3)).trans h3.blk, fun _ => rfl⟩, h4⟩
theorem putAt_len {cs vs : List Value} {o : Nat} (h : o + vs.length ≤ cs.length) : (putAt cs o vs).length = cs.length := by
  simp [putAt]; omega
theorem putAt_app {cs ds vs : List Value} {o : Nat} (h : o + vs.length ≤ cs.length) : putAt (cs ++ ds) o vs = putAt cs o vs ++ ds := by
  simp only [putAt]
  rw [List.take_append_of_le_length (by omega), List.drop_append_of_le_length (by omega)]
  simp
theorem putAt_right {cs ds vs : List Value} {o : Nat} : putAt (cs ++ ds) (cs.length + o) vs = cs ++ putAt ds o vs := by
  simp only [putAt]
  rw [List.take_append, List.take_of_length_le (by omega), show cs.length + o - cs.length = o by omega, List.drop_append, List.drop_eq_nil_of_le (by omega), show cs.length + o + vs.length - cs.length = o + vs.length by omega]
  simp
theorem flatten_put {rows : List (List Value)} {sz : Nat} (hs : ∀ r ∈ rows, r.length = sz) {i j : Nat} {r vs : List Value} (hi : rows[i]? = some r) (hj : j + vs.length ≤ sz) : putAt rows.flatten (i * sz + j) vs = (rows.set i (putAt r j vs)).flatten := by
  induction rows generalizing i with
  | nil => simp at hi
  | cons r0 rows ih =>
    have h0 := hs r0 (by simp)
    cases i with
    | zero =>
      simp only [List.getElem?_cons_zero, Option.some.injEq] at hi
      subst hi
      rw [List.flatten_cons, Nat.zero_mul, Nat.zero_add, putAt_app (by omega)]
      simp
    | succ i =>
      simp only [List.getElem?_cons_succ] at hi
      have := ih (fun r hr => hs r (by simp [hr])) hi
      rw [List.flatten_cons, show (i + 1) * sz + j = r0.length + (i * sz + j) by rw [h0, Nat.succ_mul]; omega, putAt_right, this]
      simp
/-- A store into a field of an element. -/
theorem r_storeM {t : TypeId} {x p : Operand} {B e sz : Nat} {C : Gh} {A : Option Addr} {c i j n : Nat} {rows : List (List Value)} {r vs : List Value} {v : Value} (hs : ∀ w, (sizeOf t).run P w = .ok n w) (hn : vs.length = n) (h : MRow B e sz w C A c rows) (hi : rows[i]? = some r) (hj : j + vs.length ≤ sz) (hH : Has w C)
    (hp : ρ p = ptrAt A (i * sz + j)) (hx : ρ x = v) (hv : v.cells = vs.toArray) (h1 : (vs.all fun u => u.oneCell') = true) :
    ∃ g w', (execOp ρ ⟨d, .store t p x, ty, pos, af, gd⟩).run P w = .ok .skip w' ∧ Mut g w C w' C ∧ MRow B e sz w' C A c (rows.set i (putAt r j vs)) ∧ B ≤ g ∧ ∃ cs, St w C g cs e := by
  rcases h with ⟨_, _, rfl⟩ | ⟨g, spare, rfl, h2, h3, h4, h5, h6, h7⟩
  · simp at hi
  have hsz : ∀ r ∈ rows, r.length = sz := fun r hr => (h7 r hr).1
  have hil : i < rows.length := (List.getElem?_eq_some_iff.1 hi).1
  have hfl := flatten_len hsz
  have hle : i * sz + j + vs.length ≤ rows.flatten.length := by
    rw [hfl]
    have : (i + 1) * sz ≤ rows.length * sz := Nat.mul_le_mul_right _ hil
    rw [Nat.succ_mul] at this
    omega
  obtain ⟨w', k1, k2, k3⟩ := r_storeSt (P := P) (ρ := ρ) (d := d) (ty := ty) (pos := pos) (af := af) (gd := gd) (o := i * sz + j) hs hn h3 hH (by rw [hp]; simp [ptrAt, add_lit]) hx hv h1 (by rw [List.length_append]; omega)
  refine ⟨g, w', k1, k2, .inr ⟨g, spare, rfl, h2, ?_, by simpa using h4, h5, ?_, fun r' hr' => ?_⟩, h2, _, h3⟩
  · rw [putAt_app hle, flatten_put hsz hi hj] at k3
    exact k3
  · rw [← flatten_put hsz hi hj, List.length_append, putAt_len hle, ← List.length_append]
    exact h6
  · rcases List.mem_or_eq_of_mem_set hr' with hr' | rfl
    · exact h7 r' hr'
    · have hr := h7 r (List.mem_of_getElem? hi)
      refine ⟨by rw [putAt_len (by omega)]; exact hr.1, fun u hu => ?_⟩
      simp only [putAt, List.mem_append] at hu
      rcases hu with (hu | hu) | hu
      · exact hr.2 u (List.mem_of_mem_take hu)
      · simp only [List.all_eq_true] at h1; exact h1 u hu
      · exact hr.2 u (List.mem_of_mem_drop hu)
/-- An append of elements whose cells are committed elsewhere (a literal). -/
theorem r_appendM {α : Type} {K : Kd α} {C : Gh} {B e t : Nat} {ie : TypeInfo} {z : Value} {sz bytes : Nat} {A A2 : Option Addr} {c c2 : Nat} {rows : List (List Value)} {r : List Value} {y : α} {x x2 : Operand}
    (ht : P.underlying t = some (.slice e)) (hi : P.info? e = some ie) (hz : ie.zero = some z) (hsz : ie.size = sz) (hby : ie.bytes = bytes) (hzs : z.cells.size = sz) (hpos : Nat.blt 0 sz = true) (hKs : K.sz = sz)
    (hx : ρ x = .slice A rows.length c) (hy : ρ x2 = .slice A2 1 c2) (h : MRow B e sz w C A c rows) (hg : CellsG C A2 0 r) (hr : K.R C y r) (hH : Has w C) (hB : B ≤ w.heap.size) (hb : (rows.length + 1) * bytes ≤ 140737488355328) (hlen : rows.length + 1 ≤ 140737488355328) :
    ∃ A' c' w', (execOp ρ ⟨d, .call { callee := .builtin .append, args := #[x, x2], argTypes := #[t, t] }, ty, pos, af, gd⟩).run P w = .ok (.value (.slice A' (rows ++ [r]).length c')) w' ∧ MRow B e sz w' C A' c' (rows ++ [r]) ∧
      Ext B w C w' C ∧ (∀ k cs t', St w C k cs t' → t' ≠ e → St w' C k cs t') ∧ (∀ B2 e2 sz2 A3 n3 c3, Own B2 e2 sz2 w C A3 n3 c3 → e2 ≠ e → Own B2 e2 sz2 w' C A3 n3 c3) ∧ (∀ k, k < w.heap.size → (∀ cs, ¬ St w C k cs e) → w'.heap[k]? = w.heap[k]?) := by
  have hp := lt_of_blt hpos
  obtain ⟨g2, o2, rfl, hseg⟩ := hg
  have hrl := K.len _ _ _ hr
  have hnews : ∀ j u, r[j]? = some u → w.cell? ((⟨g2, o2, none⟩ : Addr).add j) = some u := fun j u hj => by
    rw [add_lit]; have := hseg j u hj; rw [Nat.add_zero] at this; exact hH _ _ _ this
  -- as the kit's own row
  have hown : w.ownsRow B e sz (.slice A rows.length c) rows.length rows.flatten := by
    rcases h with ⟨rfl, rfl, rfl⟩ | ⟨g, spare, rfl, h2, h3, h4, h5, h6, h7⟩
    · exact World.ownsRow_nil _ _ _ _
    · have hfl := flatten_len (fun r hr => (h7 r hr).1)
      exact ⟨hfl, .inr ⟨g, c, _, rfl, h2, h3.blk, h4, by simp only [maxLen]; omega, by simpa using h6, by rw [← hfl]; simp⟩⟩
  obtain ⟨v', w', hrun, hown', hgr, _, hat⟩ := run_append_own_at (P := P) w B t ty e ie z sz bytes ht hi hz hsz hby hzs hp (.slice A rows.length c) rows.length rows.flatten hown ⟨g2, o2, none⟩ 1 c2 r (by rw [hrl, hKs]; omega) hnews (K.one _ _ _ hr) (by simp only [maxLen]; omega) hb hB
  have hblk : ∀ k, (Value.slice A rows.length c).ownBlock = some k → B ≤ k ∧ ∃ cs, St w C k cs e := by
    intro k hk
    rcases h with ⟨rfl, rfl, rfl⟩ | ⟨g, spare, rfl, h2, h3, _⟩
    · simp [Value.ownBlock] at hk
    · simp [Value.ownBlock] at hk
      subst hk
      exact ⟨h2, _, h3⟩
  have hne : ∀ k cs t', St w C k cs t' → t' ≠ e → some k ≠ (Value.slice A rows.length c).ownBlock := fun k cs t' hs hne' he => by
    obtain ⟨_, cs', hs'⟩ := hblk k he.symm
    exact hs.ne_type hs' hne' rfl
  have hHas : Has w' C := fun b o v hv => by
    refine (World.cell?_of_block (w := w) (hgr.block b (hH.lt hv) (fun he => ?_))).trans (hH _ _ _ hv)
    obtain ⟨_, cs', hs'⟩ := hblk b he.symm
    rw [hs'.un o] at hv
    cases hv
  obtain ⟨hl', hform⟩ := hown'
  rcases hform with ⟨_, hn0⟩ | ⟨g, cap, cur, rfl, hgB, hg', hnc, hcm, hcs, htake⟩
  · omega
  have hun : ∀ o, C g o = none := fun o => by
    rcases hat with hat | hat
    · obtain ⟨_, cs', hs'⟩ := hblk g (by rw [← hat]; rfl)
      exact hs'.un o
    · have : g = w.heap.size := by simpa [Value.ownBlock] using hat
      exact hH.none o (by omega)
  have hrows : ∀ r' ∈ rows ++ [r], r'.length = sz ∧ ∀ v ∈ r', v.oneCell' = true := fun r' hr' => by
    rcases List.mem_append.1 hr' with hr' | hr'
    · rcases h with ⟨_, _, rfl⟩ | ⟨g, spare, rfl, h2, h3, h4, h5, h6, h7⟩
      · simp at hr'
      · exact h7 r' hr'
    · simp only [List.mem_singleton] at hr'
      subst hr'
      exact ⟨by rw [hrl, hKs], K.one _ _ _ hr⟩
  refine ⟨some ⟨g, 0, none⟩, cap, w', ?_, .inr ⟨g, cur.toList.drop ((rows.length + 1) * sz), rfl, hgB, ⟨?_, hun⟩, ?_, ?_, ?_, hrows⟩, ?_, fun k cs t' hs hne' => ?_, fun B2 e2 sz2 A3 n3 c3 ho3 hne3 => ?_, fun k hk hn => hgr.block k hk fun he => ?_⟩
  · rw [List.length_append]
    simp [execOp, resolve, invoke, builtin, hx, hy, hrun]
  · rw [hg']
    have : (rows ++ [r]).flatten = rows.flatten ++ r := by simp
    rw [this, ← htake, List.take_append_drop]
  · rw [List.length_append]; exact hnc
  · simpa only [maxLen] using hcm
  · have : (rows ++ [r]).flatten = rows.flatten ++ r := by simp
    rw [this, ← htake, List.take_append_drop]
    simpa using hcs
  · exact ⟨⟨hgr.os, hgr.tape, hgr.output, hgr.size, fun k hk => hgr.block k (by omega) (fun he => by have := (hblk k he.symm).1; omega)⟩, hHas, Gle.refl _, fun _ _ _ => rfl⟩
  · exact ⟨(hgr.block k hs.lt (hne k cs t' hs hne')).trans hs.blk, hs.un⟩
  · refine ⟨ho3.le, fun hl => ?_⟩
    obtain ⟨g3, o3, cs3, k1, k2, k3, k4⟩ := ho3.sp hl
    refine ⟨g3, o3, cs3, k1, k2, (hgr.block g3 (blk_lt' k3) (fun he => ?_)).trans k3, k4⟩
    obtain ⟨_, cs', hs'⟩ := hblk g3 he.symm
    have := k3.symm.trans hs'.blk
    simp only [Option.some.injEq, Obj.cells.injEq] at this
    exact hne3 this.2.1
  · obtain ⟨_, cs', hs'⟩ := hblk k he.symm
    exact hn _ hs'
/-- The row is committed: from here on it is only read. -/
theorem MRow.toSl {α : Type} {K : Kd α} {B e sz : Nat} {w : World} {C : Gh} {A : Option Addr} {c : Nat} {rows : List (List Value)} {xs : List α} (h : MRow B e sz w C A c rows) (hK : K.sz = sz) (hr : RowR K C xs rows.flatten) (hl : rows.length = xs.length) (hb : xs.length ≤ 140737488355328) (hH : Has w C) (hB : B ≤ w.heap.size) :
    ∃ C', Ext B w C w C' ∧ Sl K C' A c xs ∧ (∀ k cs t, St w C k cs t → t ≠ e → St w C' k cs t) := by
  rcases h with ⟨rfl, rfl, rfl⟩ | ⟨g, spare, rfl, h2, h3, h4, h5, h6, h7⟩
  · have : xs = [] := List.eq_nil_of_length_eq_zero (by rw [← hl]; rfl)
    subst this
    exact ⟨C, Ext.refl hH, Sl.nil _ _ _ _, fun k cs t hs _ => hs⟩
  · have hle : Gle C (commit C g 0 rows.flatten) := commit_le fun k _ _ => h3.un k
    refine ⟨commit C g 0 rows.flatten, ⟨Below.refl _ _, commit_has hH fun i v hv => ?_, hle, fun b o hbB => commit_ne _ _ _ (by omega) _⟩, Sl.of_row (hr.mono hle) (commit_seg _ _ _ _) (by omega) hb, fun k cs t hs hne => ⟨hs.blk, fun o => ?_⟩⟩
    · refine h3.cell ?_
      rw [Nat.zero_add, List.getElem?_append_left (List.getElem?_eq_some_iff.1 hv).1]
      exact hv
    · rw [commit_ne _ _ _ (hs.ne_type h3 hne)]
      exact hs.un o
end
/-- No state of that type. -/
def NotT (e : Nat) (WS : World) (k : Nat) : Prop := ∀ cs C1, ¬ St WS C1 k cs e
theorem SS.appM {C C1 C2 : Gh} {e : Nat} {WS w w2 : World} {B : Nat} (h : SS C (NotT e WS) WS w) (ex : Ext B w C1 w2 C2) (hH : Has w2 C2) (hle : Gle C C2) (ho : ∀ k, k < w.heap.size → (∀ cs, ¬ St w C1 k cs e) → w2.heap[k]? = w.heap[k]?) : SS C (NotT e WS) WS w2 :=
  ⟨fun b o v hv => hH b o v (hle b o v hv), Nat.le_trans h.size ex.below.size, fun k hk hm => (ho k (Nat.lt_of_lt_of_le hk h.size) fun cs hs => hm cs C1 ⟨(h.blk k hk hm).symm.trans hs.blk, hs.un⟩).trans (h.blk k hk hm)⟩
theorem St.notT {WS : World} {C : Gh} {g : Nat} {cs : List Value} {t e : Nat} (h : St WS C g cs t) (hne : t ≠ e) : NotT e WS g := fun _ _ h' => h.ne_type h' hne rfl
theorem set_last {rows : List (List Value)} {r r' : List Value} {i : Nat} (h : i = rows.length) : (rows ++ [r]).set i r' = rows ++ [r'] := by
  subst h
  rw [List.set_append_right _ _ (Nat.le_refl _)]
  simp
theorem last_at {rows : List (List Value)} {r : List Value} {i : Nat} (h : i = rows.length) : (rows ++ [r])[i]? = some r := by
  subst h; simp
section
variable {P : Program} {N : Nat} {Q : Exit → Fr → World → Prop} {T : Fr} {w : World} {ops : Array Oper} {S : World → Prop} {zs : List Nat} {i : Nat} {o : Oper} {C : Gh}
section
variable {t B e sz c ix j n : Nat} {x p : Operand} {A : Option Addr} {rows rows' : List (List Value)} {r vs : List Value} {v : Value}
theorem FWl.storeM {l : List Oper} (ho : o.op = .store t p x) (hd : o.dst = none) (hw : wantedF ops T o = true) (hs : ∀ w, (sizeOf t).run P w = .ok n w) (hn : vs.length = n) (h : MRow B e sz w C A c rows) (hi : rows[ix]? = some r) (hj : Nat.ble (j + vs.length) sz = true) (hH : Has w C)
    (hp : ev T p = ptrAt A (ix * sz + j)) (hx : ev T x = v) (hv : v.cells = vs.toArray) (h1 : (vs.all fun u => u.oneCell') = true) (hr : rows.set ix (putAt r j vs) = rows')
    (k : ∀ g w' cs, Mut g w C w' C → MRow B e sz w' C A c rows' → B ≤ g → St w C g cs e → FWl P N ops Q l T w') : FWl P N ops Q (o :: l) T w := by
  obtain ⟨dst, op, ty, pos, af, gd⟩ := o; cases ho
  obtain ⟨g, w', k1, k2, k3, k4, cs, k5⟩ := r_storeM (P := P) (ρ := ev T) (d := dst) (ty := ty) (pos := pos) (af := af) (gd := gd) hs hn h hi (Nat.le_of_ble_eq_true hj) hH hp hx hv h1
  exact FWl.unit hd hw _ k1 (k g w' cs k2 (hr ▸ k3) k4 k5)
theorem FWs.storeM {l : List (Nat × Bool)} (hio : ops[i]? = some o) (ho : o.op = .store t p x) (hd : o.dst = none) (hw : wantedF ops T o = true) (hs : ∀ w, (sizeOf t).run P w = .ok n w) (hn : vs.length = n) (h : MRow B e sz w C A c rows) (hi : rows[ix]? = some r) (hj : Nat.ble (j + vs.length) sz = true) (hH : Has w C)
    (hp : ev T p = ptrAt A (ix * sz + j)) (hx : ev T x = v) (hv : v.cells = vs.toArray) (h1 : (vs.all fun u => u.oneCell') = true) (hr : rows.set ix (putAt r j vs) = rows')
    (k : ∀ g w' cs, Mut g w C w' C → MRow B e sz w' C A c rows' → B ≤ g → St w C g cs e → (zs.contains i = true ∨ S w') ∧ FWs P N ops Q S zs l T w') : FWs P N ops Q S zs ((i, false) :: l) T w := by
  obtain ⟨dst, op, ty, pos, af, gd⟩ := o; cases ho
  obtain ⟨g, w', k1, k2, k3, k4, cs, k5⟩ := r_storeM (P := P) (ρ := ev T) (d := dst) (ty := ty) (pos := pos) (af := af) (gd := gd) hs hn h hi (Nat.le_of_ble_eq_true hj) hH hp hx hv h1
  have := k g w' cs k2 (hr ▸ k3) k4 k5
  exact FWs.unit hio hd hw _ k1 this.1 this.2
end
section
variable {α : Type} {K : Kd α} {B e t d : Nat} {ie : TypeInfo} {z : Value} {sz bytes : Nat} {A A2 : Option Addr} {c c2 : Nat} {rows : List (List Value)} {r : List Value} {y : α} {x x2 : Operand}
theorem FWl.appM {l : List Oper} (ho : o.op = .call { callee := .builtin .append, args := #[x, x2], argTypes := #[t, t] }) (hd : o.dst = some d) (hw : wantedF ops T o = true)
    (ht : P.underlying t = some (.slice e)) (hi : P.info? e = some ie) (hz : ie.zero = some z) (hsz : ie.size = sz) (hby : ie.bytes = bytes) (hzs : z.cells.size = sz) (hpos : Nat.blt 0 sz = true) (hKs : K.sz = sz)
    (hx : ev T x = .slice A rows.length c) (hy : ev T x2 = .slice A2 1 c2) (h : MRow B e sz w C A c rows) (hg : CellsG C A2 0 r) (hr : K.R C y r) (hH : Has w C) (hB : B ≤ w.heap.size) (hb : (rows.length + 1) * bytes ≤ 140737488355328) (hlen : rows.length + 1 ≤ 140737488355328)
    (k : ∀ A' c' w', MRow B e sz w' C A' c' (rows ++ [r]) → Ext B w C w' C → (∀ k cs t', St w C k cs t' → t' ≠ e → St w' C k cs t') → (∀ B2 e2 sz2 A3 n3 c3, Own B2 e2 sz2 w C A3 n3 c3 → e2 ≠ e → Own B2 e2 sz2 w' C A3 n3 c3) → (∀ k, k < w.heap.size → (∀ cs, ¬ St w C k cs e) → w'.heap[k]? = w.heap[k]?) →
      FWl P N ops Q l (upd T d (.slice A' (rows ++ [r]).length c')) w') : FWl P N ops Q (o :: l) T w := by
  obtain ⟨dst, op, ty, pos, af, gd⟩ := o; cases ho
  obtain ⟨A', c', w', k1, k2, k3, k4, k5, k6⟩ := r_appendM (P := P) (ρ := ev T) (d := dst) (ty := ty) (pos := pos) (af := af) (gd := gd) ht hi hz hsz hby hzs hpos hKs hx hy h hg hr hH hB hb hlen
  exact FWl.val d hd hw _ _ k1 (k A' c' w' k2 k3 k4 k5 k6)
theorem FWs.appM {l : List (Nat × Bool)} (hio : ops[i]? = some o) (ho : o.op = .call { callee := .builtin .append, args := #[x, x2], argTypes := #[t, t] }) (hd : o.dst = some d) (hw : wantedF ops T o = true)
    (ht : P.underlying t = some (.slice e)) (hi : P.info? e = some ie) (hz : ie.zero = some z) (hsz : ie.size = sz) (hby : ie.bytes = bytes) (hzs : z.cells.size = sz) (hpos : Nat.blt 0 sz = true) (hKs : K.sz = sz)
    (hx : ev T x = .slice A rows.length c) (hy : ev T x2 = .slice A2 1 c2) (h : MRow B e sz w C A c rows) (hg : CellsG C A2 0 r) (hr : K.R C y r) (hH : Has w C) (hB : B ≤ w.heap.size) (hb : (rows.length + 1) * bytes ≤ 140737488355328) (hlen : rows.length + 1 ≤ 140737488355328)
    (k : ∀ A' c' w', MRow B e sz w' C A' c' (rows ++ [r]) → Ext B w C w' C → (∀ k cs t', St w C k cs t' → t' ≠ e → St w' C k cs t') → (∀ B2 e2 sz2 A3 n3 c3, Own B2 e2 sz2 w C A3 n3 c3 → e2 ≠ e → Own B2 e2 sz2 w' C A3 n3 c3) → (∀ k, k < w.heap.size → (∀ cs, ¬ St w C k cs e) → w'.heap[k]? = w.heap[k]?) →
      (zs.contains i = true ∨ S w') ∧ FWs P N ops Q S zs l (upd T d (.slice A' (rows ++ [r]).length c')) w') : FWs P N ops Q S zs ((i, false) :: l) T w := by
  obtain ⟨dst, op, ty, pos, af, gd⟩ := o; cases ho
  obtain ⟨A', c', w', k1, k2, k3, k4, k5, k6⟩ := r_appendM (P := P) (ρ := ev T) (d := dst) (ty := ty) (pos := pos) (af := af) (gd := gd) ht hi hz hsz hby hzs hpos hKs hx hy h hg hr hH hB hb hlen
  have := k A' c' w' k2 k3 k4 k5 k6
  exact FWs.val hio d hd hw _ _ k1 this.1 this.2
end
end
end Go.Proofs.Ytlofomkhiefbmaa
