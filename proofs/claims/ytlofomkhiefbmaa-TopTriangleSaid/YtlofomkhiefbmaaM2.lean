/- Walks. -/
import Derived.Test.YtlofomkhiefbmaaJH
import Derived.Test.YtlofomkhiefbmaaJT
set_option maxRecDepth 10000
set_option linter.unusedVariables false
set_option linter.unusedSimpArgs false
namespace Go.Proofs.Ytlofomkhiefbmaa
open Go.RowKit
theorem cloneLine_c {A : Option Addr} {c : Nat} {xs : List Line} {w : World} {C : Gh} (hH : Has w C) (hs : Sl kLine C A c xs) (hl : xs.length ≤ 100000) : Ret Try.prog 52 #[Value.slice A xs.length c] w fun v w' => ∃ (C' : Gh) (A' : Option Addr) (c' : Nat), v = Value.slice A' xs.length c' ∧ Ext w.heap.size w C w' C' ∧ Sl kLine C' A' c' xs ∧ Own w.heap.size 43 2 w' C' A' xs.length c' := by
  refine Ret.of Try.func52 rfl Try.ntmps52 rfl ?_
  have hE := Ext.refl (B := w.heap.size) hH
  have bd_hs := hs.bd
  refine FW.seq_k fun K1 hK1 => ?_
  refine FW.region rfl ?_
  refine FWl.val 2 rfl rfl (Value.slice none 0 0) _ (r_assign) ?_
  refine FWl.nil (hK1 _ _ ?_)
  clear hK1 K1
  refine FW.seq_k fun K2 hK2 => ?_
  refine FW.seq_k fun K3 hK3 => ?_
  refine FW.region rfl ?_
  refine FWl.val 3 rfl rfl (Value.slice A xs.length c) _ (r_move) ?_
  refine FWl.val 4 rfl rfl (Value.bool A.isNone) _ (r_eqlNil Try.runUnderlying22 rfl rfl) ?_
  refine FWl.nil (hK3 _ _ ?_)
  clear hK3 K3
  refine FW.cond (A.isNone) rfl (fun hc1 => ?_) (fun hc1 => ?_)
  · refine FW.seq_k fun K4 hK4 => ?_
    refine FW.region rfl ?_
    refine FWl.val 2 rfl rfl (Value.slice none 0 0) _ (r_assign) ?_
    refine FWl.nil (hK4 _ _ ?_)
    clear hK4 K4
    refine FW.ret (thenF_ret (?_))
    refine ret_tmp (v := Value.slice none 0 0) Try.results52 (.inl rfl) rfl ?_
    obtain rfl : A = none := by simpa using hc1
    obtain rfl : xs = [] := hs.nil_of
    exact ⟨C, none, 0, rfl, hE, Sl.nil _ _ _ _, Own.nil⟩
  · refine FW.skip (hK2 _ _ ?_)
    clear hK2 K2
    refine FW.seq_k fun K5 hK5 => ?_
    refine FW.region rfl ?_
    refine FWl.lit0 rfl rfl rfl Try.runUnderlying22 Try.sizeOf43 hH ?_
    intro A4 w5 e7
    have hE_8 := hE.step e7
    have hH9 := e7.has
    refine FWl.val 6 rfl rfl (Value.slice A xs.length c) _ (r_move) ?_
    refine FWl.app (K := kLine) (B := w.heap.size) (xs := []) (ys := xs) (sz := 2) (bytes := 24) rfl rfl rfl Try.underlying22 info43 zero43 rfl rfl rfl rfl rfl rfl rfl (Sl.nil kLine _ _ _) Own.full hs hH9 hE_8.size (by simp only [List.length_cons, List.length_nil]; omega) (by simp only [List.length_cons, List.length_nil]; omega) ?_
    intro A10 c11 w12 C13 hs14 ow15 e16 ap17
    have hE_18 := hE_8.trans e16
    refine FWl.val 2 rfl rfl (Value.slice A10 ((([]) ++ xs).length) c11) _ (r_assign) ?_
    refine FWl.nil (hK5 _ _ ?_)
    clear hK5 K5
    refine FW.ret (?_)
    refine ret_tmp (v := Value.slice A10 ((([]) ++ xs).length) c11) Try.results52 (.inl rfl) rfl ?_
    exact ⟨C13, A10, c11, rfl, hE_18, hs14, ow15⟩

theorem equalLine_c {A1 A2 : Option Addr} {c1 c2 : Nat} {xs ys : List Line} {w : World} {C : Gh} (hH : Has w C) (h1 : Sl kLine C A1 c1 xs) (h2 : Sl kLine C A2 c2 ys) : Ret Try.prog 21 #[Value.slice A1 xs.length c1, Value.slice A2 ys.length c2] w fun v w' => v = Value.bool (decide (xs = ys)) ∧ Ext w.heap.size w C w' C := by
  refine Ret.of Try.func21 rfl Try.ntmps21 rfl ?_
  have hE := Ext.refl (B := w.heap.size) hH
  have bd_h1 := h1.bd
  have bd_h2 := h2.bd
  refine FW.seq_k fun K1 hK1 => ?_
  refine FW.region rfl ?_
  refine FWl.val 4 rfl rfl (Value.bool false) _ (r_assign) ?_
  refine FWl.nil (hK1 _ _ ?_)
  clear hK1 K1
  refine FW.seq_k fun K2 hK2 => ?_
  refine FW.seq_k fun K3 hK3 => ?_
  refine FW.region rfl ?_
  refine FWl.val 6 rfl rfl (Value.slice A1 xs.length c1) _ (r_move) ?_
  refine FWl.val 7 rfl rfl (Value.int .i64 ((xs.length : Nat) : Int)) _ (r_lenSl Try.underlying22 rfl) ?_
  refine FWl.val 8 rfl rfl (Value.slice A2 ys.length c2) _ (r_move) ?_
  refine FWl.val 9 rfl rfl (Value.int .i64 ((ys.length : Nat) : Int)) _ (r_lenSl Try.underlying22 rfl) ?_
  refine FWl.val 10 rfl rfl (Value.bool (decide (((xs.length : Nat) : Int) ≠ ((ys.length : Nat) : Int)))) _ (r_neq rfl rfl) ?_
  refine FWl.nil (hK3 _ _ ?_)
  clear hK3 K3
  refine FW.cond (decide (((xs.length : Nat) : Int) ≠ ((ys.length : Nat) : Int))) rfl (fun hc1 => ?_) (fun hc1 => ?_)
  · have hp2 : ((xs.length : Nat) : Int) ≠ ((ys.length : Nat) : Int) := of_decide_eq_true hc1
    refine FW.seq_k fun K4 hK4 => ?_
    refine FW.region rfl ?_
    refine FWl.val 4 rfl rfl (Value.bool false) _ (r_assign) ?_
    refine FWl.nil (hK4 _ _ ?_)
    clear hK4 K4
    refine FW.ret (thenF_ret (?_))
    refine ret_tmp (v := Value.bool false) Try.results21 (.inl rfl) rfl ?_
    exact ⟨congrArg Value.bool (by first | exact eq_len (by assumption) | exact eq_elem (by assumption) (by assumption) (by assumption) | exact eq_all hq (by assumption) (by assumption)), hE⟩
  · have hp3 : ¬ (((xs.length : Nat) : Int) ≠ ((ys.length : Nat) : Int)) := of_decide_eq_false hc1
    refine FW.skip (hK2 _ _ ?_)
    clear hK2 K2
    refine FW.seq_k fun K5 hK5 => ?_
    refine FW.seq_k fun K6 hK6 => ?_
    refine FW.region rfl ?_
    refine FWl.val 11 rfl rfl (Value.slice A1 xs.length c1) _ (r_move) ?_
    refine FWl.val 12 rfl rfl (Value.int .i64 ((xs.length : Nat) : Int)) _ (r_lenSl Try.underlying22 rfl) ?_
    refine FWl.val 13 rfl rfl (Value.int .i64 0) _ (r_move) ?_
    refine FWl.nil (hK6 _ _ ?_)
    clear hK6 K6
    refine FW.block ?_
    refine FW.loop_m (fun msr T w4 => ∃  (k : Nat), Holds T [(0, Value.slice A1 xs.length c1), (1, Value.slice A2 ys.length c2), (6, Value.slice A1 xs.length c1), (7, Value.int .i64 ((xs.length : Nat) : Int)), (8, Value.slice A2 ys.length c2), (9, Value.int .i64 ((ys.length : Nat) : Int)), (10, Value.bool (decide (((xs.length : Nat) : Int) ≠ ((ys.length : Nat) : Int)))), (11, Value.slice A1 xs.length c1), (12, Value.int .i64 ((xs.length : Nat) : Int)), (13, Value.int .i64 (k : Int))] ∧ Ext (w.heap.size) w C w4 C ∧ (k ≤ xs.length) ∧ (xs.take k = ys.take k) ∧ msr = xs.length - k) (xs.length - 0) ?_ ?_
    · exact ⟨0, ⟨rfl, rfl, rfl, rfl, rfl, rfl, rfl, rfl, rfl, rfl, trivial⟩, Ext.refl hH, Nat.zero_le _, rfl, rfl⟩
    · rintro msr T w4 ⟨k, hT, hL1, hk, hq, rfl⟩
      refine FW.frame hT fun B1 => ?_
      have hE_6 := hE.step hL1
      have hH7 := hL1.has
      refine FW.seq_k fun K7 hK7 => ?_
      refine FW.region rfl ?_
      refine FWl.val 14 rfl rfl (Value.bool (decide ((k : Int) < ((xs.length : Nat) : Int)))) _ (r_lss rfl rfl) ?_
      refine FWl.nil (hK7 _ _ ?_)
      clear hK7 K7
      refine FW.seq_k fun K8 hK8 => ?_
      refine FW.cond (decide ((k : Int) < ((xs.length : Nat) : Int))) rfl (fun hc8 => ?_) (fun hc8 => ?_)
      · have hp9 : (k : Int) < ((xs.length : Nat) : Int) := of_decide_eq_true hc8
        refine FW.skip (hK8 _ _ ?_)
        clear hK8 K8
        refine FW.seq_k fun K9 hK9 => ?_
        refine FW.block ?_
        refine FW.seq_k fun K10 hK10 => ?_
        refine FW.region rfl ?_
        refine FWl.val 15 rfl rfl (Value.int .i64 (k : Int)) _ (r_move) ?_
        refine FWl.val 5 rfl rfl (Value.int .i64 (k : Int)) _ (r_assign) ?_
        refine FWl.nil (hK10 _ _ ?_)
        clear hK10 K10
        refine FW.seq_k fun K11 hK11 => ?_
        refine FW.regionDraw mixed (SS C (fun _ => True) w4.drew) [] [(0, true), (1, true), (2, true), (3, true), (4, true), (5, false), (6, false), (7, false), (8, false)] rfl (by kernel_rfl) ?_
        have e11 : Ext w4.heap.size w4 C w4.drew C := (Ext.refl hH7).drew
        generalize w4.drew = w10 at *
        have hE_12 := hE_6.step e11
        have hL1_13 := hL1.step e11
        have hH14 := e11.has
        have hS15 : SS C (fun _ => True) w10 w10 := SS.refl hH14
        have hle16 := Gle.refl C
        refine FWs.take rfl 16 rfl rfl (Value.slice A1 xs.length c1) hS15 (fun _ _ => r_move) ?_
        refine FWs.take rfl 17 rfl rfl (Value.int .i64 (k : Int)) hS15 (fun _ _ => r_move) ?_
        obtain ⟨x17, hx18⟩ := get_some (xs := xs) (j := k) (by omega)
        obtain ⟨cs19, hr20, hg21⟩ := h1.at_ _ _ hx18
        obtain rfl := hr20
        refine FWs.take rfl 18 rfl rfl (ptrAt A1 (((k : Int)).toNat * 2)) hS15 (fun _ _ => r_indexAddr Try.underlying22 Try.sizeOf43 rfl rfl (h1.isSome (by omega)) (by omega) (by omega)) ?_
        refine FWs.take rfl 19 rfl rfl (Value.agg #[Value.string x17.text, Value.bool x17.bare]) hS15 (fun _ hS' => r_loadGN Try.isAgg43 Try.sizeOf43 hg21 rfl hS'.has) ?_
        refine FWs.take rfl 20 rfl rfl (Value.slice A2 ys.length c2) hS15 (fun _ _ => r_move) ?_
        refine FWs.val rfl 21 rfl rfl (Value.int .i64 (k : Int)) _ (r_move) (.inr hS15) ?_
        obtain ⟨x22, hx23⟩ := get_some (xs := ys) (j := k) (by omega)
        obtain ⟨cs24, hr25, hg26⟩ := h2.at_ _ _ hx23
        obtain rfl := hr25
        refine FWs.val rfl 22 rfl rfl (ptrAt A2 (((k : Int)).toNat * 2)) _ (r_indexAddr Try.underlying22 Try.sizeOf43 rfl rfl (h2.isSome (by omega)) (by omega) (by omega)) (.inr hS15) ?_
        refine FWs.val rfl 23 rfl rfl (Value.agg #[Value.string x22.text, Value.bool x22.bare]) _ (r_loadGN Try.isAgg43 Try.sizeOf43 hg26 rfl hH14) (.inr hS15) ?_
        refine FWs.val rfl 24 rfl rfl (Value.bool (!decide (x17 = x22))) _ (r_neqAgg Try.eqGuardType43 (fun _ => eqT43 _ _ _ _ _) rfl rfl) (.inr hS15) ?_
        refine FWs.nil (hK11 _ _ ?_)
        clear hK11 K11
        refine FW.cond (!decide (x17 = x22)) rfl (fun hc27 => ?_) (fun hc27 => ?_)
        · have hp28 : ¬ (x17 = x22) := by simpa using hc27
          refine FW.seq_k fun K12 hK12 => ?_
          refine FW.region rfl ?_
          refine FWl.val 4 rfl rfl (Value.bool false) _ (r_assign) ?_
          refine FWl.nil (hK12 _ _ ?_)
          clear hK12 K12
          refine FW.ret (inBlockF_ret (thenF_ret (thenF_ret (inBlockF_ret (thenF_ret (?_))))))
          refine ret_tmp (v := Value.bool false) Try.results21 (.inl rfl) rfl ?_
          exact ⟨congrArg Value.bool (by first | exact eq_len (by assumption) | exact eq_elem (by assumption) (by assumption) (by assumption) | exact eq_all hq (by assumption) (by assumption)), hE_12⟩
        · have hp29 : x17 = x22 := by simpa using hc27
          refine FW.skip (hK9 _ _ ?_)
          clear hK9 K9
          refine FW.region rfl ?_
          refine FWl.val 25 rfl rfl (Value.int .i64 ((k : Int) + 1)) _ (r_addI rfl rfl (by omega) (by omega)) ?_
          refine FWl.val 13 rfl rfl (Value.int .i64 ((k : Int) + 1)) _ (r_move) ?_
          refine FWl.nil (thenF_norm (?_))
          refine ⟨_, ⟨k + 1, ⟨rfl, rfl, rfl, rfl, rfl, rfl, rfl, rfl, rfl, rfl, trivial⟩, hL1_13, by omega, take_eq_step hq (by assumption) (by assumption) (by assumption), rfl⟩, ?_⟩
          omega
      · have hp30 : ¬ ((k : Int) < ((xs.length : Nat) : Int)) := of_decide_eq_false hc8
        refine FW.exit (thenF_exit (thenF_exit (inBlockF_hit (hK5 _ _ ?_))))
        clear hK5 K5 hK8 K8
        refine FW.seq_k fun K13 hK13 => ?_
        refine FW.region rfl ?_
        refine FWl.val 4 rfl rfl (Value.bool true) _ (r_assign) ?_
        refine FWl.nil (hK13 _ _ ?_)
        clear hK13 K13
        refine FW.ret (?_)
        refine ret_tmp (v := Value.bool true) Try.results21 (.inl rfl) rfl ?_
        exact ⟨congrArg Value.bool (by first | exact eq_len (by assumption) | exact eq_elem (by assumption) (by assumption) (by assumption) | exact eq_all hq (by assumption) (by assumption)), hE_6⟩

theorem check_c {A : Option Addr} {c : Nat} {s : List Edit} {w : World} {C : Gh} (hH : Has w C) (hs : Sl kEdit C A c s) (ok : okS s) : Ret Try.prog 40 #[Value.slice A s.length c] w fun v w' => ∃ (C' : Gh), v = Value.int .i64 0 ∧ Ext w.heap.size w C w' C' := by
  refine Ret.of Try.func40 rfl Try.ntmps40 rfl ?_
  have hE := Ext.refl (B := w.heap.size) hH
  have bd_hs := hs.bd
  have hok1 := ok.len
  refine FW.seq_k fun K1 hK1 => ?_
  refine FW.region rfl ?_
  refine FWl.val 2 rfl rfl (Value.int .i64 0) _ (r_assign) ?_
  refine FWl.nil (hK1 _ _ ?_)
  clear hK1 K1
  refine FW.seq_k fun K2 hK2 => ?_
  refine FW.seq_k fun K3 hK3 => ?_
  refine FW.region rfl ?_
  refine FWl.val 7 rfl rfl (Value.slice A s.length c) _ (r_move) ?_
  refine FWl.val 8 rfl rfl (Value.int .i64 ((s.length : Nat) : Int)) _ (r_lenSl Try.underlying26 rfl) ?_
  refine FWl.val 9 rfl rfl (Value.bool (decide (800 < ((s.length : Nat) : Int)))) _ (r_gtr rfl rfl) ?_
  refine FWl.nil (hK3 _ _ ?_)
  clear hK3 K3
  refine FW.cond (decide (800 < ((s.length : Nat) : Int))) rfl (fun hc1 => ?_) (fun hc1 => ?_)
  · have hp2 : 800 < ((s.length : Nat) : Int) := of_decide_eq_true hc1
    refine FW.seq_k fun K4 hK4 => ?_
    refine FW.region rfl ?_
    refine FWl.val 2 rfl rfl (Value.int .i64 4) _ (r_assign) ?_
    refine FWl.nil (hK4 _ _ ?_)
    clear hK4 K4
    refine FW.ret (thenF_ret (?_))
    refine ret_tmp (v := Value.int .i64 4) Try.results40 (.inl rfl) rfl ?_
    exfalso; omega
  · have hp3 : ¬ (800 < ((s.length : Nat) : Int)) := of_decide_eq_false hc1
    refine FW.skip (hK2 _ _ ?_)
    clear hK2 K2
    refine FW.seq_k fun K5 hK5 => ?_
    refine FW.region rfl ?_
    refine FWl.val 3 rfl rfl (Value.int .i64 0) _ (r_assign) ?_
    refine FWl.val 4 rfl rfl (Value.int .i64 0) _ (r_assign) ?_
    refine FWl.nil (hK5 _ _ ?_)
    clear hK5 K5
    refine FW.seq_k fun K6 hK6 => ?_
    refine FW.seq_k fun K7 hK7 => ?_
    refine FW.region rfl ?_
    refine FWl.val 10 rfl rfl (Value.slice A s.length c) _ (r_move) ?_
    refine FWl.val 11 rfl rfl (Value.int .i64 ((s.length : Nat) : Int)) _ (r_lenSl Try.underlying26 rfl) ?_
    refine FWl.val 12 rfl rfl (Value.int .i64 0) _ (r_move) ?_
    refine FWl.nil (hK7 _ _ ?_)
    clear hK7 K7
    refine FW.block ?_
    refine FW.loop_m (fun msr T w4 => ∃ (C5 : Gh) (k : Nat) (n : Int), Holds T [(0, Value.slice A s.length c), (3, Value.int .i64 n), (4, Value.int .i64 0), (7, Value.slice A s.length c), (8, Value.int .i64 ((s.length : Nat) : Int)), (9, Value.bool (decide (800 < ((s.length : Nat) : Int)))), (10, Value.slice A s.length c), (11, Value.int .i64 ((s.length : Nat) : Int)), (12, Value.int .i64 (k : Int))] ∧ Ext (w.heap.size) w C w4 C5 ∧ (k ≤ s.length) ∧ (n = (total (s.take k) : Int)) ∧ msr = s.length - k) (s.length - 0) ?_ ?_
    · exact ⟨C, 0, 0, ⟨rfl, rfl, rfl, rfl, rfl, rfl, rfl, rfl, rfl, trivial⟩, Ext.refl hH, Nat.zero_le _, by simp [total], rfl⟩
    · rintro msr T w4 ⟨C5, k, n, hT, hL1, hk, hn, rfl⟩
      refine FW.frame hT fun B1 => ?_
      have hE_6 := hE.step hL1
      have hs_7 := hs.mono hL1.le
      have hH8 := hL1.has
      have htk := total_take_le s k
      have hok1 := ok.len
      have hok2 := ok.tot
      refine FW.seq_k fun K8 hK8 => ?_
      refine FW.region rfl ?_
      refine FWl.val 13 rfl rfl (Value.bool (decide ((k : Int) < ((s.length : Nat) : Int)))) _ (r_lss rfl rfl) ?_
      refine FWl.nil (hK8 _ _ ?_)
      clear hK8 K8
      refine FW.seq_k fun K9 hK9 => ?_
      refine FW.cond (decide ((k : Int) < ((s.length : Nat) : Int))) rfl (fun hc9 => ?_) (fun hc9 => ?_)
      · have hp10 : (k : Int) < ((s.length : Nat) : Int) := of_decide_eq_true hc9
        refine FW.skip (hK9 _ _ ?_)
        clear hK9 K9
        refine FW.seq_k fun K10 hK10 => ?_
        refine FW.block ?_
        refine FW.seq_k fun K11 hK11 => ?_
        refine FW.region rfl ?_
        obtain ⟨x11, hx12⟩ := get_some (xs := s) (j := k) (by omega)
        obtain ⟨cs13, hr14, hg15⟩ := hs_7.at_ _ _ hx12
        obtain ⟨A16, c17, rfl, hs18⟩ := hr14
        have hxd := ok.dos _ (List.mem_of_getElem? hx12)
        have htt := total_take_le s (k + 1)
        rw [total_take hx12] at htt
        refine FWl.val 14 rfl rfl (ptrAt A (((k : Int)).toNat * 2)) _ (r_indexAddr Try.underlying26 Try.sizeOf57 rfl rfl (hs_7.isSome (by omega)) (by omega) (by omega)) ?_
        refine FWl.val 15 rfl rfl (Value.agg #[Value.int .i64 x11.do_, Value.slice A16 x11.lines.length c17]) _ (r_loadGN Try.isAgg57 Try.sizeOf57 hg15 rfl hH8) ?_
        refine FWl.alloc (cs := [Value.int .i64 0, Value.slice none 0 0]) rfl rfl rfl Try.zeroValue57 rfl hH8 ?_
        intro g19 w20 st21 e22 hg23
        have hge_st21_hE := Nat.le_trans hE_6.size (Nat.le_of_eq hg23)
        have hge_st21_hL1 := Nat.le_trans hL1.size (Nat.le_of_eq hg23)
        have hL1_25 := hL1.step e22
        have hH26 := e22.has
        have hlt_st21 := st21.lt
        refine FWl.store (vs := [Value.int .i64 x11.do_, Value.slice A16 x11.lines.length c17]) (cs' := [Value.int .i64 x11.do_, Value.slice A16 x11.lines.length c17]) rfl rfl rfl Try.sizeOf57 rfl st21 hH26 rfl rfl rfl rfl rfl rfl ?_
        intro w27 m28 st21_29
        have hL1_31 := hL1_25.trans (m28.ext hL1_25.size (by omega))
        refine FWl.nil (hK11 _ _ ?_)
        clear hK11 K11
        refine FW.seq_k fun K12 hK12 => ?_
        refine FW.seq_k fun K13 hK13 => ?_
        refine FW.region rfl ?_
        refine FWl.val 16 rfl rfl (Value.int .i64 n) _ (r_move) ?_
        refine FWl.val 17 rfl rfl (Value.pointer (some ⟨g19, 1, none⟩)) _ (r_fieldAddrS Try.underlying57 rfl Try.sizeOf22 rfl rfl rfl rfl) ?_
        refine FWl.val 18 rfl rfl (Value.slice A16 x11.lines.length c17) _ (r_load1 Try.isAgg22 rfl (st21_29.cell rfl)) ?_
        refine FWl.val 19 rfl rfl (Value.int .i64 ((x11.lines.length : Nat) : Int)) _ (r_lenSl Try.underlying22 rfl) ?_
        refine FWl.val 20 rfl rfl (Value.int .i64 (n + ((x11.lines.length : Nat) : Int))) _ (r_addI rfl rfl (by omega) (by omega)) ?_
        refine FWl.val 21 rfl rfl (Value.int .i64 (min (n + ((x11.lines.length : Nat) : Int)) 801)) _ (r_min2 rfl rfl) ?_
        refine FWl.val 3 rfl rfl (Value.int .i64 (min (n + ((x11.lines.length : Nat) : Int)) 801)) _ (r_assign) ?_
        refine FWl.nil (hK13 _ _ ?_)
        clear hK13 K13
        refine FW.seq_k fun K14 hK14 => ?_
        refine FW.region rfl ?_
        refine FWl.val 22 rfl rfl (Value.int .i64 (min (n + ((x11.lines.length : Nat) : Int)) 801)) _ (r_move) ?_
        refine FWl.val 23 rfl rfl (Value.bool (decide (800 < (min (n + ((x11.lines.length : Nat) : Int)) 801)))) _ (r_gtr rfl rfl) ?_
        refine FWl.nil (hK14 _ _ ?_)
        clear hK14 K14
        refine FW.cond (decide (800 < (min (n + ((x11.lines.length : Nat) : Int)) 801))) rfl (fun hc33 => ?_) (fun hc33 => ?_)
        · have hp34 : 800 < (min (n + ((x11.lines.length : Nat) : Int)) 801) := of_decide_eq_true hc33
          refine FW.seq_k fun K15 hK15 => ?_
          refine FW.region rfl ?_
          refine FWl.val 2 rfl rfl (Value.int .i64 4) _ (r_assign) ?_
          refine FWl.nil (hK15 _ _ ?_)
          clear hK15 K15
          refine FW.ret (thenF_ret (inBlockF_ret (thenF_ret (thenF_ret (inBlockF_ret (thenF_ret (?_)))))))
          refine ret_tmp (v := Value.int .i64 4) Try.results40 (.inl rfl) rfl ?_
          exfalso; omega
        · have hp35 : ¬ (800 < (min (n + ((x11.lines.length : Nat) : Int)) 801)) := of_decide_eq_false hc33
          refine FW.skip (hK12 _ _ ?_)
          clear hK12 K12
          refine FW.seq_k fun K16 hK16 => ?_
          refine FW.region rfl ?_
          refine FWl.val 24 rfl rfl (Value.pointer (some ⟨g19, 0, none⟩)) _ (r_fieldAddrS Try.underlying57 rfl Try.sizeOf55 rfl rfl rfl rfl) ?_
          refine FWl.val 25 rfl rfl (Value.int .i64 x11.do_) _ (r_load1 Try.isAgg55 rfl (st21_29.cell rfl)) ?_
          refine FWl.val 26 rfl rfl (Value.bool (decide (x11.do_ < 1))) _ (r_lss rfl rfl) ?_
          refine FWl.val 27 rfl rfl (Value.bool (decide (x11.do_ < 1))) _ (r_move) ?_
          cases hb36 : (decide (x11.do_ < 1)) with
          | true =>
            have hp37 : x11.do_ < 1 := of_decide_eq_true hb36
            refine FWl.skip 28 rfl rfl ?_
            refine FWl.skip 29 rfl rfl ?_
            refine FWl.skip 30 rfl rfl ?_
            refine FWl.val 31 rfl rfl (Value.bool true) _ (r_pick (t := true) rfl) ?_
            refine FWl.nil (hK16 _ _ ?_)
            clear hK16 K16
            refine FW.cond true rfl (fun _ => ?_) (fun h => nomatch h)
            refine FW.region rfl ?_
            refine FWl.val 4 rfl rfl (Value.int .i64 3) _ (r_assign) ?_
            refine FWl.nil (hK10 _ _ ?_)
            clear hK10 K10
            refine FW.region rfl ?_
            refine FWl.val 32 rfl rfl (Value.int .i64 ((k : Int) + 1)) _ (r_addI rfl rfl (by omega) (by omega)) ?_
            refine FWl.val 12 rfl rfl (Value.int .i64 ((k : Int) + 1)) _ (r_move) ?_
            refine FWl.nil (thenF_norm (?_))
            exfalso; omega
          | false =>
            have hp38 : ¬ (x11.do_ < 1) := of_decide_eq_false hb36
            refine FWl.val 28 rfl rfl (Value.pointer (some ⟨g19, 0, none⟩)) _ (r_fieldAddrS Try.underlying57 rfl Try.sizeOf55 rfl rfl rfl rfl) ?_
            refine FWl.val 29 rfl rfl (Value.int .i64 x11.do_) _ (r_load1 Try.isAgg55 rfl (st21_29.cell rfl)) ?_
            refine FWl.val 30 rfl rfl (Value.bool (decide (3 < x11.do_))) _ (r_gtr rfl rfl) ?_
            refine FWl.val 31 rfl rfl (Value.bool (decide (3 < x11.do_))) _ (r_pick (t := false) rfl) ?_
            refine FWl.nil (hK16 _ _ ?_)
            clear hK16 K16
            refine FW.cond (decide (3 < x11.do_)) rfl (fun hc39 => ?_) (fun hc39 => ?_)
            · have hp40 : 3 < x11.do_ := of_decide_eq_true hc39
              refine FW.region rfl ?_
              refine FWl.val 4 rfl rfl (Value.int .i64 3) _ (r_assign) ?_
              refine FWl.nil (hK10 _ _ ?_)
              clear hK10 K10
              refine FW.region rfl ?_
              refine FWl.val 32 rfl rfl (Value.int .i64 ((k : Int) + 1)) _ (r_addI rfl rfl (by omega) (by omega)) ?_
              refine FWl.val 12 rfl rfl (Value.int .i64 ((k : Int) + 1)) _ (r_move) ?_
              refine FWl.nil (thenF_norm (?_))
              exfalso; omega
            · have hp41 : ¬ (3 < x11.do_) := of_decide_eq_false hc39
              refine FW.skip (hK10 _ _ ?_)
              clear hK10 K10
              refine FW.region rfl ?_
              refine FWl.val 32 rfl rfl (Value.int .i64 ((k : Int) + 1)) _ (r_addI rfl rfl (by omega) (by omega)) ?_
              refine FWl.val 12 rfl rfl (Value.int .i64 ((k : Int) + 1)) _ (r_move) ?_
              refine FWl.nil (thenF_norm (?_))
              refine ⟨_, ⟨C5, k + 1, _, ⟨rfl, rfl, rfl, rfl, rfl, rfl, rfl, rfl, rfl, trivial⟩, hL1_31, by omega, by rw [total_take (by assumption), hn]; omega, rfl⟩, ?_⟩
              omega
      · have hp42 : ¬ ((k : Int) < ((s.length : Nat) : Int)) := of_decide_eq_false hc9
        refine FW.exit (thenF_exit (thenF_exit (inBlockF_hit (hK6 _ _ ?_))))
        clear hK6 K6 hK9 K9
        refine FW.seq_k fun K17 hK17 => ?_
        refine FW.region rfl ?_
        refine FWl.val 33 rfl rfl (Value.int .i64 0) _ (r_move) ?_
        refine FWl.val 2 rfl rfl (Value.int .i64 0) _ (r_assign) ?_
        refine FWl.nil (hK17 _ _ ?_)
        clear hK17 K17
        refine FW.ret (?_)
        refine ret_tmp (v := Value.int .i64 0) Try.results40 (.inl rfl) rfl ?_
        exact ⟨C5, rfl, hE_6⟩

theorem sides_c {A : Option Addr} {c : Nat} {s : List Edit} {w : World} {C : Gh} (hH : Has w C) (hs : Sl kEdit C A c s) (ok : okS s) : Ret Try.prog 41 #[Value.slice A s.length c] w fun v w' => ∃ (C' : Gh) (A1 : Option Addr) (c1 : Nat) (A2 : Option Addr) (c2 : Nat), v = Value.tuple #[Value.slice A1 ((oldS s).length) c1, Value.slice A2 ((newS s).length) c2] ∧ Ext w.heap.size w C w' C' ∧ Sl kLine C' A1 c1 (oldS s) ∧ Sl kLine C' A2 c2 (newS s) := by
  refine Ret.of Try.func41 rfl Try.ntmps41 rfl ?_
  have hE := Ext.refl (B := w.heap.size) hH
  have bd_hs := hs.bd
  have hok1 := ok.len; have hok2 := ok.tot
  refine FW.seq_k fun K1 hK1 => ?_
  refine FW.region rfl ?_
  refine FWl.val 2 rfl rfl (Value.slice none 0 0) _ (r_assign) ?_
  refine FWl.val 3 rfl rfl (Value.slice none 0 0) _ (r_assign) ?_
  refine FWl.nil (hK1 _ _ ?_)
  clear hK1 K1
  refine FW.seq_k fun K2 hK2 => ?_
  refine FW.seq_k fun K3 hK3 => ?_
  refine FW.region rfl ?_
  refine FWl.val 6 rfl rfl (Value.slice A s.length c) _ (r_move) ?_
  refine FWl.val 7 rfl rfl (Value.int .i64 ((s.length : Nat) : Int)) _ (r_lenSl Try.underlying26 rfl) ?_
  refine FWl.val 8 rfl rfl (Value.int .i64 0) _ (r_move) ?_
  refine FWl.nil (hK3 _ _ ?_)
  clear hK3 K3
  refine FW.block ?_
  refine FW.loop_m (fun msr T w1 => ∃ (C2 : Gh) (k : Nat) (Aa Ab : Option Addr) (ca cb : Nat) (la lb : List Line), Holds T [(0, Value.slice A s.length c), (2, Value.slice Aa la.length ca), (3, Value.slice Ab lb.length cb), (6, Value.slice A s.length c), (7, Value.int .i64 ((s.length : Nat) : Int)), (8, Value.int .i64 (k : Int))] ∧ Ext (w.heap.size) w C w1 C2 ∧ (k ≤ s.length) ∧ (la = oldS (s.take k)) ∧ (lb = newS (s.take k)) ∧ (Sl kLine C2 Aa ca la) ∧ (Sl kLine C2 Ab cb lb) ∧ (Own w.heap.size 43 2 w1 C2 Aa la.length ca) ∧ (Own w.heap.size 43 2 w1 C2 Ab lb.length cb) ∧ (Nb2 Aa la.length ca Ab lb.length cb) ∧ msr = s.length - k) (s.length - 0) ?_ ?_
  · exact ⟨C, 0, none, none, 0, 0, [], [], ⟨rfl, rfl, rfl, rfl, rfl, rfl, trivial⟩, Ext.refl hH, Nat.zero_le _, by simp [oldS], by simp [newS], Sl.nil _ _ _ _, Sl.nil _ _ _ _, Own.nil, Own.nil, Nb2.nil, rfl⟩
  · rintro msr T w1 ⟨C2, k, Aa, Ab, ca, cb, la, lb, hT, hL1, hk, ela, elb, ha, hb, oa, ob, nab, rfl⟩
    refine FW.frame hT fun B1 => ?_
    have hE_3 := hE.trans hL1
    have hs_4 := hs.mono hL1.le
    have hH5 := hL1.has
    have hla : la.length ≤ 800 := by rw [ela]; exact Nat.le_trans (oldS_len _) (Nat.le_trans (total_take_le s k) ok.tot)
    have hlb : lb.length ≤ 800 := by rw [elb]; exact Nat.le_trans (newS_len _) (Nat.le_trans (total_take_le s k) ok.tot)
    refine FW.seq_k fun K4 hK4 => ?_
    refine FW.region rfl ?_
    refine FWl.val 9 rfl rfl (Value.bool (decide ((k : Int) < ((s.length : Nat) : Int)))) _ (r_lss rfl rfl) ?_
    refine FWl.nil (hK4 _ _ ?_)
    clear hK4 K4
    refine FW.seq_k fun K5 hK5 => ?_
    refine FW.cond (decide ((k : Int) < ((s.length : Nat) : Int))) rfl (fun hc6 => ?_) (fun hc6 => ?_)
    · have hp7 : (k : Int) < ((s.length : Nat) : Int) := of_decide_eq_true hc6
      refine FW.skip (hK5 _ _ ?_)
      clear hK5 K5
      refine FW.seq_k fun K6 hK6 => ?_
      refine FW.block ?_
      refine FW.seq_k fun K7 hK7 => ?_
      refine FW.region rfl ?_
      obtain ⟨x8, hx9⟩ := get_some (xs := s) (j := k) (by omega)
      obtain ⟨cs10, hr11, hg12⟩ := hs_4.at_ _ _ hx9
      obtain ⟨A13, c14, rfl, hs15⟩ := hr11
      have hxd := ok.dos _ (List.mem_of_getElem? hx9)
      have htt := total_take_le s (k + 1)
      rw [total_take hx9] at htt
      refine FWl.val 10 rfl rfl (ptrAt A (((k : Int)).toNat * 2)) _ (r_indexAddr Try.underlying26 Try.sizeOf57 rfl rfl (hs_4.isSome (by omega)) (by omega) (by omega)) ?_
      refine FWl.val 11 rfl rfl (Value.agg #[Value.int .i64 x8.do_, Value.slice A13 x8.lines.length c14]) _ (r_loadGN Try.isAgg57 Try.sizeOf57 hg12 rfl hH5) ?_
      refine FWl.alloc (cs := [Value.int .i64 0, Value.slice none 0 0]) rfl rfl rfl Try.zeroValue57 rfl hH5 ?_
      intro g16 w17 st18 e19 hg20
      have hge_st18_hE := Nat.le_trans hE_3.size (Nat.le_of_eq hg20)
      have hge_st18_hL1 := Nat.le_trans hL1.size (Nat.le_of_eq hg20)
      have hE_21 := hE_3.step e19
      have hL1_22 := hL1.trans (e19.mono hE_3.size)
      have oa_23 := oa.call e19
      have ob_24 := ob.call e19
      have hH25 := e19.has
      have hlt_st18 := st18.lt
      have nb26 := oa.nb (Nat.le_of_eq hg20)
      have nb27 := ob.nb (Nat.le_of_eq hg20)
      refine FWl.store (vs := [Value.int .i64 x8.do_, Value.slice A13 x8.lines.length c14]) (cs' := [Value.int .i64 x8.do_, Value.slice A13 x8.lines.length c14]) rfl rfl rfl Try.sizeOf57 rfl st18 hH25 rfl rfl rfl rfl rfl rfl ?_
      intro w28 m29 st18_30
      have hE_31 := hE_21.trans (m29.ext hE_21.size (by omega))
      have hL1_32 := hL1_22.trans (m29.ext hE_21.size (by omega))
      have oa_33 := oa_23.mut m29 nb26
      have ob_34 := ob_24.mut m29 nb27
      have hH35 := m29.has
      refine FWl.nil (hK7 _ _ ?_)
      clear hK7 K7
      refine FW.seq_k fun K8 hK8 => ?_
      refine FW.region rfl ?_
      refine FWl.val 12 rfl rfl (Value.pointer (some ⟨g16, 0, none⟩)) _ (r_fieldAddrS Try.underlying57 rfl Try.sizeOf55 rfl rfl rfl rfl) ?_
      refine FWl.val 13 rfl rfl (Value.int .i64 x8.do_) _ (r_load1 Try.isAgg55 rfl (st18_30.cell rfl)) ?_
      refine FWl.nil (hK8 _ _ ?_)
      clear hK8 K8
      refine FW.block ?_
      refine FW.seq_k fun K9 hK9 => ?_
      refine FW.block ?_
      refine FW.seq_k fun K10 hK10 => ?_
      refine FW.block ?_
      refine FW.seq_k fun K11 hK11 => ?_
      refine FW.block ?_
      refine FW.seq_k fun K12 hK12 => ?_
      refine FW.seq_k fun K13 hK13 => ?_
      refine FW.seq_k fun K14 hK14 => ?_
      refine FW.region rfl ?_
      refine FWl.val 15 rfl rfl (Value.bool (decide (x8.do_ = 1))) _ (r_eql rfl rfl) ?_
      refine FWl.val 14 rfl rfl (Value.bool (decide (x8.do_ = 1))) _ (r_assign) ?_
      refine FWl.nil (hK14 _ _ ?_)
      clear hK14 K14
      refine FW.cond (decide (x8.do_ = 1)) rfl (fun hc36 => ?_) (fun hc36 => ?_)
      · have hp37 : x8.do_ = 1 := of_decide_eq_true hc36
        refine FW.exit (thenF_exit (thenF_exit (inBlockF_hit (hK11 _ _ ?_))))
        clear hK11 K11 hK12 K12 hK13 K13
        refine FW.region rfl ?_
        refine FWl.val 18 rfl rfl (Value.slice Ab lb.length cb) _ (r_move) ?_
        refine FWl.val 19 rfl rfl (Value.pointer (some ⟨g16, 1, none⟩)) _ (r_fieldAddrS Try.underlying57 rfl Try.sizeOf22 rfl rfl rfl rfl) ?_
        refine FWl.val 20 rfl rfl (Value.slice A13 x8.lines.length c14) _ (r_load1 Try.isAgg22 rfl (st18_30.cell rfl)) ?_
        refine FWl.app (K := kLine) (B := w.heap.size) (xs := lb) (ys := x8.lines) (sz := 2) (bytes := 24) rfl rfl rfl Try.underlying22 info43 zero43 rfl rfl rfl rfl rfl rfl rfl hb ob_34 hs15 hH35 hE_31.size (by omega) (by omega) ?_
        intro A38 c39 w40 C41 hs42 ow43 e44 ap45
        have hE_46 := hE_31.trans e44
        have hL1_47 := hL1_32.trans e44
        have st18_48 := st18_30.app ap45 (ob_34.nbT st18_30 (by decide))
        have nb49 := ap45.nb2 oa_33 nab.symm
        have oa_50 := oa_33.app ap45 nab.symm
        have ha_52 := ha.mono e44.le
        have hs15_55 := hs15.mono e44.le
        have hH56 := e44.has
        refine FWl.val 3 rfl rfl (Value.slice A38 ((lb ++ x8.lines).length) c39) _ (r_assign) ?_
        refine FWl.nil (hK10 _ _ ?_)
        clear hK10 K10
        refine FW.seq_k fun K15 hK15 => ?_
        refine FW.region rfl ?_
        refine FWl.val 22 rfl rfl (Value.slice Aa la.length ca) _ (r_move) ?_
        refine FWl.val 23 rfl rfl (Value.pointer (some ⟨g16, 1, none⟩)) _ (r_fieldAddrS Try.underlying57 rfl Try.sizeOf22 rfl rfl rfl rfl) ?_
        refine FWl.val 24 rfl rfl (Value.slice A13 x8.lines.length c14) _ (r_load1 Try.isAgg22 rfl (st18_48.cell rfl)) ?_
        refine FWl.app (K := kLine) (B := w.heap.size) (xs := la) (ys := x8.lines) (sz := 2) (bytes := 24) rfl rfl rfl Try.underlying22 info43 zero43 rfl rfl rfl rfl rfl rfl rfl ha_52 oa_50 hs15_55 hH56 hE_46.size (by omega) (by omega) ?_
        intro A57 c58 w59 C60 hs61 ow62 e63 ap64
        have hL1_66 := hL1_47.trans e63
        have nb68 := ap64.nb2 ow43 nb49.symm
        have ow43_69 := ow43.app ap64 nb49.symm
        have hs42_75 := hs42.mono e63.le
        refine FWl.val 2 rfl rfl (Value.slice A57 ((la ++ x8.lines).length) c58) _ (r_assign) ?_
        refine FWl.nil (hK15 _ _ ?_)
        clear hK15 K15
        refine FW.exit (inBlockF_miss rfl (thenF_exit (inBlockF_hit (hK6 _ _ ?_))))
        clear hK6 K6 hK9 K9
        refine FW.region rfl ?_
        refine FWl.val 30 rfl rfl (Value.int .i64 ((k : Int) + 1)) _ (r_addI rfl rfl (by omega) (by omega)) ?_
        refine FWl.val 8 rfl rfl (Value.int .i64 ((k : Int) + 1)) _ (r_move) ?_
        refine FWl.nil (thenF_norm (?_))
        refine ⟨_, ⟨C60, k + 1, A57, A38, c58, c39, la ++ x8.lines, lb ++ x8.lines, ⟨rfl, rfl, rfl, rfl, rfl, rfl, trivial⟩, hL1_66, by omega, by rw [oldS_take (by assumption), ela]; first | rw [if_pos (by omega), List.append_nil] | rw [if_neg (by omega)], by rw [newS_take (by assumption), elb]; first | rw [if_pos (by omega), List.append_nil] | rw [if_neg (by omega)], hs61, hs42_75, ow62, ow43_69, nb68, rfl⟩, ?_⟩
        omega
      · have hp77 : ¬ (x8.do_ = 1) := of_decide_eq_false hc36
        refine FW.skip (hK13 _ _ ?_)
        clear hK13 K13
        refine FW.seq_k fun K16 hK16 => ?_
        refine FW.region rfl ?_
        refine FWl.val 17 rfl rfl (Value.bool (decide (x8.do_ = 2))) _ (r_eql rfl rfl) ?_
        refine FWl.val 16 rfl rfl (Value.bool (decide (x8.do_ = 2))) _ (r_assign) ?_
        refine FWl.nil (hK16 _ _ ?_)
        clear hK16 K16
        refine FW.cond (decide (x8.do_ = 2)) rfl (fun hc78 => ?_) (fun hc78 => ?_)
        · have hp79 : x8.do_ = 2 := of_decide_eq_true hc78
          refine FW.exit (thenF_exit (inBlockF_miss rfl (thenF_exit (inBlockF_hit (hK10 _ _ ?_)))))
          clear hK10 K10 hK11 K11 hK12 K12
          refine FW.seq_k fun K17 hK17 => ?_
          refine FW.region rfl ?_
          refine FWl.val 22 rfl rfl (Value.slice Aa la.length ca) _ (r_move) ?_
          refine FWl.val 23 rfl rfl (Value.pointer (some ⟨g16, 1, none⟩)) _ (r_fieldAddrS Try.underlying57 rfl Try.sizeOf22 rfl rfl rfl rfl) ?_
          refine FWl.val 24 rfl rfl (Value.slice A13 x8.lines.length c14) _ (r_load1 Try.isAgg22 rfl (st18_30.cell rfl)) ?_
          refine FWl.app (K := kLine) (B := w.heap.size) (xs := la) (ys := x8.lines) (sz := 2) (bytes := 24) rfl rfl rfl Try.underlying22 info43 zero43 rfl rfl rfl rfl rfl rfl rfl ha oa_33 hs15 hH35 hE_31.size (by omega) (by omega) ?_
          intro A80 c81 w82 C83 hs84 ow85 e86 ap87
          have hL1_89 := hL1_32.trans e86
          have nb91 := ap87.nb2 ob_34 nab
          have ob_92 := ob_34.app ap87 nab
          have hb_95 := hb.mono e86.le
          refine FWl.val 2 rfl rfl (Value.slice A80 ((la ++ x8.lines).length) c81) _ (r_assign) ?_
          refine FWl.nil (hK17 _ _ ?_)
          clear hK17 K17
          refine FW.exit (inBlockF_miss rfl (thenF_exit (inBlockF_hit (hK6 _ _ ?_))))
          clear hK6 K6 hK9 K9
          refine FW.region rfl ?_
          refine FWl.val 30 rfl rfl (Value.int .i64 ((k : Int) + 1)) _ (r_addI rfl rfl (by omega) (by omega)) ?_
          refine FWl.val 8 rfl rfl (Value.int .i64 ((k : Int) + 1)) _ (r_move) ?_
          refine FWl.nil (thenF_norm (?_))
          refine ⟨_, ⟨C83, k + 1, A80, Ab, c81, cb, la ++ x8.lines, lb, ⟨rfl, rfl, rfl, rfl, rfl, rfl, trivial⟩, hL1_89, by omega, by rw [oldS_take (by assumption), ela]; first | rw [if_pos (by omega), List.append_nil] | rw [if_neg (by omega)], by rw [newS_take (by assumption), elb]; first | rw [if_pos (by omega), List.append_nil] | rw [if_neg (by omega)], hs84, hb_95, ow85, ob_92, nb91, rfl⟩, ?_⟩
          omega
        · have hp99 : ¬ (x8.do_ = 2) := of_decide_eq_false hc78
          refine FW.skip (hK12 _ _ ?_)
          clear hK12 K12
          refine FW.exit (inBlockF_miss rfl (thenF_exit (inBlockF_miss rfl (thenF_exit (inBlockF_hit (hK9 _ _ ?_))))))
          clear hK9 K9 hK10 K10 hK11 K11
          refine FW.seq_k fun K18 hK18 => ?_
          refine FW.region rfl ?_
          refine FWl.val 26 rfl rfl (Value.slice Ab lb.length cb) _ (r_move) ?_
          refine FWl.val 27 rfl rfl (Value.pointer (some ⟨g16, 1, none⟩)) _ (r_fieldAddrS Try.underlying57 rfl Try.sizeOf22 rfl rfl rfl rfl) ?_
          refine FWl.val 28 rfl rfl (Value.slice A13 x8.lines.length c14) _ (r_load1 Try.isAgg22 rfl (st18_30.cell rfl)) ?_
          refine FWl.app (K := kLine) (B := w.heap.size) (xs := lb) (ys := x8.lines) (sz := 2) (bytes := 24) rfl rfl rfl Try.underlying22 info43 zero43 rfl rfl rfl rfl rfl rfl rfl hb ob_34 hs15 hH35 hE_31.size (by omega) (by omega) ?_
          intro A100 c101 w102 C103 hs104 ow105 e106 ap107
          have hL1_109 := hL1_32.trans e106
          have nb111 := ap107.nb2 oa_33 nab.symm
          have oa_112 := oa_33.app ap107 nab.symm
          have ha_114 := ha.mono e106.le
          refine FWl.val 3 rfl rfl (Value.slice A100 ((lb ++ x8.lines).length) c101) _ (r_assign) ?_
          refine FWl.nil (hK18 _ _ ?_)
          clear hK18 K18
          refine FW.exit (inBlockF_hit (hK6 _ _ ?_))
          clear hK6 K6
          refine FW.region rfl ?_
          refine FWl.val 30 rfl rfl (Value.int .i64 ((k : Int) + 1)) _ (r_addI rfl rfl (by omega) (by omega)) ?_
          refine FWl.val 8 rfl rfl (Value.int .i64 ((k : Int) + 1)) _ (r_move) ?_
          refine FWl.nil (thenF_norm (?_))
          refine ⟨_, ⟨C103, k + 1, Aa, A100, ca, c101, la, lb ++ x8.lines, ⟨rfl, rfl, rfl, rfl, rfl, rfl, trivial⟩, hL1_109, by omega, by rw [oldS_take (by assumption), ela]; first | rw [if_pos (by omega), List.append_nil] | rw [if_neg (by omega)], by rw [newS_take (by assumption), elb]; first | rw [if_pos (by omega), List.append_nil] | rw [if_neg (by omega)], ha_114, hs104, oa_112, ow105, nb111.symm, rfl⟩, ?_⟩
          omega
    · have hp119 : ¬ ((k : Int) < ((s.length : Nat) : Int)) := of_decide_eq_false hc6
      refine FW.exit (thenF_exit (thenF_exit (inBlockF_hit (hK2 _ _ ?_))))
      clear hK2 K2 hK5 K5
      refine FW.seq_k fun K19 hK19 => ?_
      refine FW.region rfl ?_
      refine FWl.val 31 rfl rfl (Value.slice Aa la.length ca) _ (r_move) ?_
      refine FWl.val 32 rfl rfl (Value.slice Ab lb.length cb) _ (r_move) ?_
      refine FWl.val 2 rfl rfl (Value.slice Aa la.length ca) _ (r_assign) ?_
      refine FWl.val 3 rfl rfl (Value.slice Ab lb.length cb) _ (r_assign) ?_
      refine FWl.nil (hK19 _ _ ?_)
      clear hK19 K19
      refine FW.ret (?_)
      refine ret_tmp2 (v := Value.slice Aa la.length ca) (v' := Value.slice Ab lb.length cb) Try.results41 (.inl rfl) rfl rfl ?_
      obtain rfl : k = s.length := by omega
      rw [List.take_length] at ela elb
      subst ela elb
      exact ⟨C2, Aa, ca, Ab, cb, rfl, hE_3, ha, hb⟩

end Go.Proofs.Ytlofomkhiefbmaa
