/- Slices of one's own: literals, append, make, cuts. -/
import Derived.Test.YtlofomkhiefbmaaJD
import Derived.Great.BuildSlice
set_option linter.unusedVariables false
namespace Go.Proofs.Ytlofomkhiefbmaa
open Go.RowKit

/-- What lies behind a slice's length is one's own: an append may write it. -/
structure Own (B e sz : Nat) (w : World) (C : Gh) (A : Option Addr) (n c : Nat) : Prop where
  le : n ≤ c
  sp : n < c → ∃ g o cs, A = some ⟨g, o, none⟩ ∧ B ≤ g ∧ w.heap[g]? = some (.cells cs e (0, 0)) ∧ o + c * sz ≤ cs.size ∧ ∀ k, o + n * sz ≤ k → k < o + c * sz → C g k = none
theorem Own.full {B e sz : Nat} {w : World} {C : Gh} {A : Option Addr} {n : Nat} : Own B e sz w C A n n := ⟨Nat.le_refl _, fun h => by omega⟩
theorem Own.nil {B e sz : Nat} {w : World} {C : Gh} : Own B e sz w C none 0 0 := Own.full
theorem Own.of_full {B e sz : Nat} {w : World} {C : Gh} {A : Option Addr} {n c : Nat} (h : n = c) : Own B e sz w C A n c := by subst h; exact Own.full
theorem Own.call {B e sz : Nat} {w w' : World} {C C' : Gh} {A : Option Addr} {n c : Nat} (h : Own B e sz w C A n c) (x : Ext w.heap.size w C w' C') : Own B e sz w' C' A n c :=
  ⟨h.le, fun hl => let ⟨g, o, cs, h1, h2, h3, h4, h5⟩ := h.sp hl; ⟨g, o, cs, h1, h2, (x.below.block g (blk_lt' h3)).trans h3, h4, fun k k1 k2 => (x.old g k (blk_lt' h3)).trans (h5 k k1 k2)⟩⟩
theorem Own.drew {B e sz : Nat} {w : World} {C : Gh} {A : Option Addr} {n c : Nat} (h : Own B e sz w C A n c) : Own B e sz w.drew C A n c := ⟨h.le, h.sp⟩
theorem Own.lower {B B' e sz : Nat} {w : World} {C : Gh} {A : Option Addr} {n c : Nat} (h : Own B e sz w C A n c) (hB : B' ≤ B) : Own B' e sz w C A n c :=
  ⟨h.le, fun hl => let ⟨g, o, cs, h1, h2, h3⟩ := h.sp hl; ⟨g, o, cs, h1, by omega, h3⟩⟩
/-- An append to this slice leaves block g alone. -/
def Nb (A : Option Addr) (n c g : Nat) : Prop := n < c → ∀ a, A = some a → a.block ≠ g
theorem Own.nb {B e sz : Nat} {w : World} {C : Gh} {A : Option Addr} {n c g : Nat} (h : Own B e sz w C A n c) (hg : w.heap.size ≤ g) : Nb A n c g := fun hl a ha => by
  obtain ⟨g', o, cs, h1, _, h3, _⟩ := h.sp hl
  have := blk_lt' h3
  rw [h1] at ha
  cases ha
  simp
  omega
theorem Own.nbLow {B e sz : Nat} {w : World} {C : Gh} {A : Option Addr} {n c g : Nat} (h : Own B e sz w C A n c) (hg : g < B) : Nb A n c g := fun hl a ha => by
  obtain ⟨g', o, cs, h1, h2, _⟩ := h.sp hl
  rw [h1] at ha
  cases ha
  simp
  omega
theorem Nb.full {A : Option Addr} {n g : Nat} : Nb A n n g := fun h => by omega
/-- What an append to a slice has done to the other blocks. -/
structure App (A : Option Addr) (n c : Nat) (w : World) (C : Gh) (A' : Option Addr) (n' c' : Nat) (w' : World) (C' : Gh) : Prop where
  size : w.heap.size ≤ w'.heap.size
  oth : ∀ k, k < w.heap.size → Nb A n c k → w'.heap[k]? = w.heap[k]? ∧ ∀ o, C' k o = C k o
  nb : ∀ k, k < w.heap.size → Nb A n c k → Nb A' n' c' k
theorem St.app {w w' : World} {C C' : Gh} {g : Nat} {cs : List Value} {t : TypeId} {A A' : Option Addr} {n c n' c' : Nat} (h : St w C g cs t) (m : App A n c w C A' n' c' w' C') (hn : Nb A n c g) : St w' C' g cs t :=
  ⟨((m.oth g h.lt hn).1).trans h.blk, fun o => ((m.oth g h.lt hn).2 o).trans (h.un o)⟩
/-- Another slice of one's own. -/
def Nb2 (A : Option Addr) (n c : Nat) (A2 : Option Addr) (n2 c2 : Nat) : Prop := n2 < c2 → ∀ a, A2 = some a → Nb A n c a.block
theorem Own.app {B e sz : Nat} {w w' : World} {C C' : Gh} {A A' A2 : Option Addr} {n c n' c' n2 c2 : Nat} (h : Own B e sz w C A2 n2 c2) (m : App A n c w C A' n' c' w' C') (hn : Nb2 A n c A2 n2 c2) : Own B e sz w' C' A2 n2 c2 :=
  ⟨h.le, fun hl => let ⟨g, o, cs, h1, h2, h3, h4, h5⟩ := h.sp hl
    have hx := m.oth g (blk_lt' h3) (hn hl _ h1)
    ⟨g, o, cs, h1, h2, hx.1.trans h3, h4, fun k k1 k2 => (hx.2 k).trans (h5 k k1 k2)⟩⟩

section
variable {P : Program} {ρ : Operand → Value} {d : Option Tmp} {ty : TypeId} {pos : String} {af : Array Edge} {gd : Option (Nat × Bool)} {w : World}

/-- A literal row: it is committed at once. -/
theorem new_lit {α : Type} {K : Kd α} {C : Gh} {t e len : Nat} {parts : Array (Nat × Operand)} {xs : List α} {cs : List Value} {ie : TypeInfo} {z : Value} (hu : P.underlying t = some (.slice e)) (hie : P.info? e = some ie) (hz : ie.zero = some z)
    (hsmall : (Nat.ble (len * ie.size) 16777216 && Nat.blt 0 (len * ie.size)) = true)
    (hf : Instr.fill (fun i => some (i * ie.size, ie.size)) ((Array.range (len * ie.size)).map (z.cells[· % z.cells.size]!)) (parts.map fun (i, x) => (i, ρ x)).toList = some cs.toArray)
    (hr : RowR K C xs cs) (hl : xs.length = len) (hH : Has w C) :
    ∃ A w' C', (execOp ρ ⟨d, .buildSlice t len parts, ty, pos, af, gd⟩).run P w = .ok (.value (.slice A len len)) w' ∧ Sl K C' A len xs ∧ Ext w.heap.size w C w' C' ∧ CellsG C' A 0 cs := by
  simp only [Bool.and_eq_true] at hsmall
  have h1 := Nat.le_of_ble_eq_true hsmall.1
  have h2 := lt_of_blt hsmall.2
  have hb : len ≤ 16777216 := by
    rcases Nat.eq_zero_or_pos ie.size with h0 | h0
    · rw [h0] at h2; simp at h2
    · exact Nat.le_trans (Nat.le_mul_of_pos_right _ h0) h1
  refine ⟨some ⟨w.heap.size, 0, none⟩, w.alloc (.cells cs.toArray e), commit C w.heap.size 0 cs, ?_, ?_, ?_, ⟨_, _, rfl, commit_seg _ _ _ _⟩⟩
  · simp only [execOp, Sem.run_bind, run_buildSlice w t e len _ cs.toArray ie z hu hie hz (by omega) (by omega) hf, Result.andThen_ok, Sem.run_pure]
  · have hle : Gle C (commit C w.heap.size 0 cs) := commit_le fun k _ _ => hH.none k (Nat.le_refl _)
    exact Sl.of_row (hr.mono hle) (commit_seg _ _ _ _) (by omega) (by omega)
  · have hle : Gle C (commit C w.heap.size 0 cs) := commit_le fun k _ _ => hH.none k (Nat.le_refl _)
    refine ⟨(Below.refl _ w).alloc (Nat.le_refl _) _, commit_has (alloc_ext hH _).has fun i v hi => ?_, hle, fun b o hb => commit_ne _ _ _ (by omega) _⟩
    have hn := heap_alloc_new w (.cells cs.toArray e)
    simp only [World.cell?, hn, Nat.zero_add]
    simpa using hi

theorem run_append_zero (t ty e : TypeId) (i : TypeInfo) (ht : P.underlying t = some (.slice e)) (hi : P.info? e = some i) (A A2 : Option Addr) (n c c2 : Nat) (hle : n ≤ c) :
    (Builtin.append_ #[t, t] ty #[.slice A n c, .slice A2 0 c2]).run P w = .ok (.slice A n c) w := by
  cases A <;> cases A2 <;> simp [Builtin.append_, run_underlying ht, sizeOf, typeInfo, hi, Builtin.lenOf, Builtin.firstCells, loadCells, loadCellsFrom, storeCells, hle]

theorem run_append_in (t ty e : TypeId) (i : TypeInfo) (ht : P.underlying t = some (.slice e)) (hi : P.info? e = some i)
    (g o sLen sCap : Nat) (cur : Array Value) (hg : w.heap[g]? = some (.cells cur e (0, 0)))
    (a : Addr) (m c : Nat) (news : List Value) (hl : news.length = m * i.size) (hnews : ∀ j u, news[j]? = some u → w.cell? (a.add j) = some u) (h1 : ∀ u ∈ news, u.oneCell' = true)
    (hroom : sLen + m ≤ sCap) (hfit : o + sLen * i.size + news.length ≤ cur.size) :
    (Builtin.append_ #[t, t] ty #[.slice (some ⟨g, o, none⟩) sLen sCap, .slice (some a) m c]).run P w =
      .ok (.slice (some ⟨g, o, none⟩) (sLen + m) sCap) (w.setRow g (cur.toList.take (o + sLen * i.size) ++ news ++ cur.toList.drop (o + sLen * i.size + news.length)).toArray) := by
  have hf := run_firstCells_some (P := P) w i.size m a m c news hl hnews
  have hst := run_storeCells_at P g (o + sLen * i.size) e news 0 cur w hg (by simpa using hfit) h1
  simp only [Nat.add_zero] at hst
  simp [Builtin.append_, run_underlying ht, sizeOf, typeInfo, hi, Builtin.lenOf, hroom, hf, Addr.add_lit, hst]

theorem app_law {α : Type} {K : Kd α} {C : Gh} {B e t ty : Nat} {i : TypeInfo} {z : Value} {sz bytes : Nat} {A A2 : Option Addr} {c c2 : Nat} {xs ys : List α}
    (ht : P.underlying t = some (.slice e)) (hi : P.info? e = some i) (hz : i.zero = some z) (hsz : i.size = sz) (hby : i.bytes = bytes) (hzs : z.cells.size = sz) (hpos : Nat.blt 0 sz = true) (hK : K.sz = sz)
    (h1 : Sl K C A c xs) (ho : Own B e sz w C A xs.length c) (h2 : Sl K C A2 c2 ys) (hH : Has w C) (hB : B ≤ w.heap.size) (hb : (xs.length + ys.length) * bytes ≤ 140737488355328) (hlen : xs.length + ys.length ≤ 140737488355328) :
    ∃ A' c' w' C', (Builtin.append_ #[t, t] ty #[.slice A xs.length c, .slice A2 ys.length c2]).run P w = .ok (.slice A' (xs ++ ys).length c') w' ∧ Sl K C' A' c' (xs ++ ys) ∧ Own B e sz w' C' A' (xs ++ ys).length c' ∧
      Ext B w C w' C' ∧ App A xs.length c w C A' (xs ++ ys).length c' w' C' := by
  have hp := lt_of_blt hpos
  rcases Nat.eq_zero_or_pos ys.length with h0 | h0
  · have : ys = [] := List.eq_nil_of_length_eq_zero h0
    subst this
    refine ⟨A, c, w, C, ?_, by simpa using h1, by simpa using ho, Ext.refl hH, ⟨Nat.le_refl _, fun k _ _ => ⟨rfl, fun _ => rfl⟩, fun k _ hn => by simpa using hn⟩⟩
    have := run_append_zero (P := P) (w := w) t ty e i ht hi A A2 xs.length c c2 h1.le
    simpa using this
  · obtain ⟨news, hr2, hs2⟩ := h2.row
    obtain ⟨g2, o2, rfl, hseg2⟩ := hs2 h0
    have hnl : news.length = ys.length * sz := by rw [hr2.len, hK]
    have hnews : ∀ j u, news[j]? = some u → w.cell? ((⟨g2, o2, none⟩ : Addr).add j) = some u := fun j u hj => by rw [add_lit]; exact hH _ _ _ (hseg2 j u hj)
    by_cases hroom : xs.length + ys.length ≤ c
    · -- in place
      obtain ⟨g, o, cur, rfl, hBg, hg, hfit, hfree⟩ := ho.sp (by omega)
      have hfit' : o + xs.length * sz + news.length ≤ cur.size := by
        have : (xs.length + ys.length) * sz ≤ c * sz := Nat.mul_le_mul_right _ hroom
        rw [Nat.add_mul] at this
        omega
      have hrun := run_append_in (P := P) (w := w) t ty e i ht hi g o xs.length c cur hg ⟨g2, o2, none⟩ ys.length c2 news (by rw [hsz]; exact hnl) hnews hr2.one hroom (by rw [hsz]; exact hfit')
      rw [hsz] at hrun
      have hfr : ∀ k, o + xs.length * sz ≤ k → k < o + xs.length * sz + news.length → C g k = none := fun k k1 k2 => by
        refine hfree k k1 ?_
        have : (xs.length + ys.length) * sz ≤ c * sz := Nat.mul_le_mul_right _ hroom
        rw [Nat.add_mul] at this
        omega
      have hle : Gle C (commit C g (o + xs.length * sz) news) := commit_le hfr
      -- the new cells
      generalize hW : w.setRow g (cur.toList.take (o + xs.length * sz) ++ news ++ cur.toList.drop (o + xs.length * sz + news.length)).toArray = w' at hrun
      have hgw : w'.heap[g]? = some (.cells (cur.toList.take (o + xs.length * sz) ++ news ++ cur.toList.drop (o + xs.length * sz + news.length)).toArray e (0, 0)) := by rw [← hW]; exact setRow_at hg _
      have hgrown : w.grownBy w' (some g) := by rw [← hW]; exact setRow_grown _ _ _
      have hcell : ∀ k, (w'.cell? ⟨g, k, none⟩) = (cur.toList.take (o + xs.length * sz) ++ news ++ cur.toList.drop (o + xs.length * sz + news.length))[k]? := fun k => by
        simp only [World.cell?, hgw]
        simp
      have hold : w.cell? ⟨g, 0, none⟩ = w.cell? ⟨g, 0, none⟩ := rfl
      have hHas : Has w' (commit C g (o + xs.length * sz) news) := by
        intro b k v hv
        simp only [commit] at hv
        split at hv
        · rename_i hin
          obtain ⟨rfl, k1, k2⟩ := hin
          rw [hcell, List.append_assoc, List.getElem?_append_right (by simp; omega), List.getElem?_append_left (by simp; omega)]
          have hmin : (cur.toList.take (o + xs.length * sz)).length = o + xs.length * sz := by simp; omega
          rw [hmin]
          exact hv
        · rename_i hin
          by_cases hbg : b = g
          · subst hbg
            have hc := hH _ _ _ hv
            simp only [World.cell?, hg] at hc
            have hk : k < cur.size := by
              have := (Array.getElem?_eq_some_iff.1 (by simpa using hc)).1
              exact this
            rw [hcell]
            have hmin : (cur.toList.take (o + xs.length * sz)).length = o + xs.length * sz := by simp; omega
            by_cases k1 : k < o + xs.length * sz
            · rw [List.append_assoc, List.getElem?_append_left (by rw [hmin]; exact k1), List.getElem?_take_of_lt k1]
              simpa using hc
            · have k2 : o + xs.length * sz + news.length ≤ k := by
                by_cases k2 : k < o + xs.length * sz + news.length
                · exact absurd ⟨rfl, by omega, k2⟩ hin
                · omega
              rw [List.getElem?_append_right (by simp; omega), List.getElem?_drop]
              have : o + xs.length * sz + news.length + (k - (cur.toList.take (o + xs.length * sz) ++ news).length) = k := by
                rw [List.length_append, hmin]; omega
              rw [this]
              simpa using hc
          · rw [World.cell?_of_block (w := w) (hgrown.block b (hH.lt hv) (by simp; exact hbg))]
            exact hH _ _ _ hv
      refine ⟨some ⟨g, o, none⟩, c, w', commit C g (o + xs.length * sz) news, by rw [List.length_append]; exact hrun, ?_, ?_, ?_, ?_⟩
      · refine ⟨by rw [List.length_append]; exact hroom, by rw [List.length_append]; exact hlen, fun j x hj => ?_⟩
        by_cases hjn : j < xs.length
        · rw [List.getElem?_append_left hjn] at hj
          obtain ⟨cs, k1, k2⟩ := h1.at_ j x hj
          exact ⟨cs, K.mono _ _ _ _ hle k1, k2.mono hle⟩
        · rw [List.getElem?_append_right (by omega)] at hj
          obtain ⟨ds, k1, k2⟩ := (hr2.mono hle).at_ g (o + xs.length * sz) (commit_seg _ _ _ _) _ x hj
          refine ⟨ds, k1, g, o, rfl, ?_⟩
          rw [hK] at k2 ⊢
          have hm : j * sz = xs.length * sz + (j - xs.length) * sz := by rw [← Nat.add_mul]; congr 1; omega
          rw [hm, ← Nat.add_assoc]
          exact k2
      · refine ⟨by rw [List.length_append]; exact hroom, fun hl => ⟨g, o, _, rfl, hBg, hgw, by simp; omega, fun k k1 k2 => ?_⟩⟩
        rw [List.length_append, Nat.add_mul] at k1
        simp only [commit]
        rw [if_neg (by omega)]
        exact hfree k (by omega) k2
      · refine ⟨⟨hgrown.os, hgrown.tape, hgrown.output, hgrown.size, fun k hk => hgrown.block k (by omega) (by simp; omega)⟩, hHas, hle, fun b k hbb => commit_ne _ _ _ (by omega) _⟩
      · refine ⟨hgrown.size, fun k hk hn => ?_, fun k hk hn hl a ha => ?_⟩
        · have hkg : g ≠ k := hn (by omega) _ rfl
          exact ⟨hgrown.block k hk (by simp; omega), fun o' => commit_ne _ _ _ (by omega) _⟩
        · exact hn (by omega) a ha
    · -- a new row
      obtain ⟨olds, hr1, hs1⟩ := h1.row
      have hol : olds.length = xs.length * sz := by rw [hr1.len, hK]
      have hgrow : ∃ v' w', (Builtin.append_ #[t, t] ty #[.slice A xs.length c, .slice (some ⟨g2, o2, none⟩) ys.length c2]).run P w = .ok v' w' ∧ w'.ownsRow w.heap.size e sz v' (xs.length + ys.length) (olds ++ news) ∧ w.grownBy w' none := by
        cases A with
        | some b =>
          refine run_append_arg_grows (P := P) w t ty e i z sz bytes ht hi hz hsz hby hzs hp b xs.length c olds hol (fun j u hj => ?_) ⟨g2, o2, none⟩ ys.length c2 news hnl hnews (by omega) (by simp only [maxLen]; omega) hb
          have hx : 0 < xs.length := by
            rcases Nat.eq_zero_or_pos xs.length with hx | hx
            · rw [hx, Nat.zero_mul] at hol
              rw [List.eq_nil_of_length_eq_zero hol] at hj
              simp at hj
            · exact hx
          obtain ⟨g, o, hA, hseg⟩ := hs1 hx
          cases hA
          rw [add_lit]
          exact hH _ _ _ (hseg j u hj)
        | none =>
          have hx : xs.length = 0 := by
            rcases Nat.eq_zero_or_pos xs.length with hx | hx
            · exact hx
            · have := h1.isSome hx
              simp at this
          have hc0 : c = 0 := by
            rcases Nat.eq_zero_or_pos c with hc0 | hc0
            · exact hc0
            · obtain ⟨g, o, cs, h, _⟩ := ho.sp (by omega)
              cases h
          rw [hx, Nat.zero_mul] at hol
          have := List.eq_nil_of_length_eq_zero hol
          subst this
          obtain ⟨v', w', k1, k2, k3, _⟩ := run_append_own (P := P) w w.heap.size t ty e i z sz bytes ht hi hz hsz hby hzs hp (.slice none 0 0) 0 [] (World.ownsRow_nil _ _ _ _) ⟨g2, o2, none⟩ ys.length c2 news hnl hnews hr2.one (by simp only [maxLen]; omega) (by rw [hx] at hb; exact hb) (Nat.le_refl _)
          rw [hx, hc0]
          exact ⟨v', w', k1, by simpa using k2, by simpa [Value.ownBlock] using k3⟩
      obtain ⟨v', w', hrun, hown, hgr⟩ := hgrow
      obtain ⟨hlen', hform⟩ := hown
      rcases hform with ⟨_, hn0⟩ | ⟨g, cap, cur, rfl, hgB, hg, hnc, hcm, hcs, htake⟩
      · omega
      have hle : Gle C (commit C g 0 (olds ++ news)) := commit_le fun k _ _ => hH.none k hgB
      have hrow : RowR K C (xs ++ ys) (olds ++ news) := hr1.app hr2
      refine ⟨some ⟨g, 0, none⟩, cap, w', commit C g 0 (olds ++ news), by rw [List.length_append]; exact hrun, ?_, ?_, ?_, ?_⟩
      · exact Sl.of_row (hrow.mono hle) (commit_seg _ _ _ _) (by rw [List.length_append]; exact hnc) (by rw [List.length_append]; exact hlen)
      · refine ⟨by rw [List.length_append]; exact hnc, fun hl => ⟨g, 0, cur, rfl, by omega, hg, by omega, fun k k1 k2 => ?_⟩⟩
        simp only [commit]
        rw [if_neg]
        · exact hH.none k hgB
        · rintro ⟨_, _, h3⟩
          rw [hlen'] at h3
          rw [List.length_append] at k1
          omega
      · refine ⟨⟨hgr.os, hgr.tape, hgr.output, hgr.size, fun k hk => hgr.block k (by omega) (by simp)⟩, ?_, hle, fun b k hbb => commit_ne _ _ _ (by omega) _⟩
        refine commit_has (hH.below (by exact ⟨hgr.os, hgr.tape, hgr.output, hgr.size, fun k hk => hgr.block k hk (by simp)⟩)) fun j v hj => ?_
        have hjl : j < (olds ++ news).length := (List.getElem?_eq_some_iff.1 hj).1
        rw [← htake] at hj
        simp only [World.cell?, hg, Option.isSome_none, Bool.false_eq_true, if_false, Nat.zero_add]
        rw [hlen'] at hjl
        rw [List.getElem?_take_of_lt hjl] at hj
        simpa using hj
      · refine ⟨hgr.size, fun k hk hn => ⟨hgr.block k hk (by simp), fun o' => commit_ne _ _ _ (by omega) _⟩, fun k hk hn hl a ha => ?_⟩
        cases ha
        simp
        omega
/-- append, as an operation. -/
theorem r_append {α : Type} {K : Kd α} {C : Gh} {B e t : Nat} {i : TypeInfo} {z : Value} {sz bytes : Nat} {A A2 : Option Addr} {c c2 : Nat} {xs ys : List α} {x y : Operand}
    (ht : P.underlying t = some (.slice e)) (hi : P.info? e = some i) (hz : i.zero = some z) (hsz : i.size = sz) (hby : i.bytes = bytes) (hzs : z.cells.size = sz) (hpos : Nat.blt 0 sz = true) (hK : K.sz = sz)
    (hx : ρ x = .slice A xs.length c) (hy : ρ y = .slice A2 ys.length c2)
    (h1 : Sl K C A c xs) (ho : Own B e sz w C A xs.length c) (h2 : Sl K C A2 c2 ys) (hH : Has w C) (hB : B ≤ w.heap.size) (hb : (xs.length + ys.length) * bytes ≤ 140737488355328) (hlen : xs.length + ys.length ≤ 140737488355328) :
    ∃ A' c' w' C', (execOp ρ ⟨d, .call { callee := .builtin .append, args := #[x, y], argTypes := #[t, t] }, ty, pos, af, gd⟩).run P w = .ok (.value (.slice A' (xs ++ ys).length c')) w' ∧ Sl K C' A' c' (xs ++ ys) ∧ Own B e sz w' C' A' (xs ++ ys).length c' ∧
      Ext B w C w' C' ∧ App A xs.length c w C A' (xs ++ ys).length c' w' C' := by
  obtain ⟨A', c', w', C', hrun, h⟩ := app_law (P := P) (w := w) (ty := ty) ht hi hz hsz hby hzs hpos hK h1 ho h2 hH hB hb hlen
  exact ⟨A', c', w', C', by simp [execOp, resolve, invoke, builtin, hx, hy, hrun], h⟩

/-! ### cuts -/
theorem Sl.take {α : Type} {K : Kd α} {C : Gh} {A : Option Addr} {c c' : Nat} {xs : List α} (h : Sl K C A c xs) (n : Nat) (hc : (xs.take n).length ≤ c') : Sl K C A c' (xs.take n) :=
  ⟨hc, by have := h.bd; simp; omega, fun j x e => h.at_ j x (by
    rw [List.getElem?_take] at e
    split at e
    · exact e
    · cases e)⟩
theorem Sl.drop {α : Type} {K : Kd α} {C : Gh} {A : Option Addr} {c c' : Nat} {xs : List α} (h : Sl K C A c xs) (n : Nat) (hc : (xs.drop n).length ≤ c') : Sl K C (A.map (·.add (n * K.sz))) c' (xs.drop n) :=
  ⟨hc, by have := h.bd; simp; omega, fun j x e => by
    rw [List.getElem?_drop] at e
    obtain ⟨cs, h1, g, o, hA, hs⟩ := h.at_ _ x e
    refine ⟨cs, h1, g, o + n * K.sz, by rw [hA]; simp [add_lit], ?_⟩
    rw [Nat.add_mul, ← Nat.add_assoc] at hs
    exact hs⟩
theorem Sl.dropAny {α : Type} {K : Kd α} {C : Gh} {A : Option Addr} {c c' c'' : Nat} {xs : List α} (h : Sl K C A c xs) (n m : Nat) (hc : (xs.drop n).length ≤ c') (hm : m = n → xs.length ≤ n) : Sl K C (if m = n then A else A.map (·.add (n * K.sz))) c' (xs.drop n) := by
  split
  · rename_i he
    have := hm he
    have hnil : xs.drop n = [] := List.drop_eq_nil_of_le this
    rw [hnil]
    exact Sl.nil _ _ _ _
  · exact h.drop n hc
end
end Go.Proofs.Ytlofomkhiefbmaa
