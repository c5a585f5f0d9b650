/- Walks. -/
import Derived.Test.YtlofomkhiefbmaaJH
import Derived.Test.YtlofomkhiefbmaaJT
import Derived.Test.YtlofomkhiefbmaaJK
set_option maxRecDepth 10000
set_option linter.unusedVariables false
set_option linter.unusedSimpArgs false
namespace Go.Proofs.Ytlofomkhiefbmaa
open Go.RowKit
theorem Mul64_c {n : Int} {w : World} {C : Gh} (hH : Has w C) (h0 : 0 ≤ n) (h1 : n ≤ 100000) : Ret Try.prog 67 #[.int .u64 1, .int .u64 n] w fun v w' => v = .tuple #[.int .u64 0, .int .u64 n] ∧ Ext w.heap.size w C w' C := by
  refine Ret.of Try.func67 rfl Try.ntmps67 rfl ?_
  have hE := Ext.refl (B := w.heap.size) hH
  refine FW.seq_k fun K1 hK1 => ?_
  refine FW.region rfl ?_
  refine FWl.val 4 rfl rfl (Value.int .u64 0) _ (r_assign) ?_
  refine FWl.val 5 rfl rfl (Value.int .u64 0) _ (r_assign) ?_
  refine FWl.nil (hK1 _ _ ?_)
  clear hK1 K1
  refine FW.seq_k fun K2 hK2 => ?_
  refine FW.region rfl ?_
  refine FWl.val 14 rfl rfl (Value.int .u64 1) _ (r_move) ?_
  refine FWl.val 15 rfl rfl (Value.int .u64 1) _ (r_andE rfl rfl (by rfl)) ?_
  refine FWl.val 6 rfl rfl (Value.int .u64 1) _ (r_assign) ?_
  refine FWl.nil (hK2 _ _ ?_)
  clear hK2 K2
  refine FW.seq_k fun K3 hK3 => ?_
  refine FW.region rfl ?_
  refine FWl.val 16 rfl rfl (Value.int .u64 1) _ (r_move) ?_
  refine FWl.val 17 rfl rfl (Value.int .u64 0) _ (r_shrE rfl rfl (by decide) (by rfl)) ?_
  refine FWl.val 7 rfl rfl (Value.int .u64 0) _ (r_assign) ?_
  refine FWl.nil (hK3 _ _ ?_)
  clear hK3 K3
  refine FW.seq_k fun K4 hK4 => ?_
  refine FW.region rfl ?_
  refine FWl.val 18 rfl rfl (Value.int .u64 n) _ (r_move) ?_
  refine FWl.val 19 rfl rfl (Value.int .u64 n) _ (r_andE rfl rfl (and_mask h0 (by omega))) ?_
  refine FWl.val 8 rfl rfl (Value.int .u64 n) _ (r_assign) ?_
  refine FWl.nil (hK4 _ _ ?_)
  clear hK4 K4
  refine FW.seq_k fun K5 hK5 => ?_
  refine FW.region rfl ?_
  refine FWl.val 20 rfl rfl (Value.int .u64 n) _ (r_move) ?_
  refine FWl.val 21 rfl rfl (Value.int .u64 0) _ (r_shrE rfl rfl (by decide) (by show n / 4294967296 = 0; omega)) ?_
  refine FWl.val 9 rfl rfl (Value.int .u64 0) _ (r_assign) ?_
  refine FWl.nil (hK5 _ _ ?_)
  clear hK5 K5
  refine FW.seq_k fun K6 hK6 => ?_
  refine FW.region rfl ?_
  refine FWl.val 22 rfl rfl (Value.int .u64 1) _ (r_move) ?_
  refine FWl.val 23 rfl rfl (Value.int .u64 n) _ (r_move) ?_
  refine FWl.val 24 rfl rfl (Value.int .u64 n) _ (r_mulE rfl rfl (by simp only [IntKind.wrap_u64]; omega)) ?_
  refine FWl.val 10 rfl rfl (Value.int .u64 n) _ (r_assign) ?_
  refine FWl.nil (hK6 _ _ ?_)
  clear hK6 K6
  refine FW.seq_k fun K7 hK7 => ?_
  refine FW.region rfl ?_
  refine FWl.val 25 rfl rfl (Value.int .u64 0) _ (r_move) ?_
  refine FWl.val 26 rfl rfl (Value.int .u64 n) _ (r_move) ?_
  refine FWl.val 27 rfl rfl (Value.int .u64 0) _ (r_mulE rfl rfl (by simp only [IntKind.wrap_u64]; omega)) ?_
  refine FWl.val 28 rfl rfl (Value.int .u64 n) _ (r_move) ?_
  refine FWl.val 29 rfl rfl (Value.int .u64 0) _ (r_shrE rfl rfl (by decide) (by show n / 4294967296 = 0; omega)) ?_
  refine FWl.val 30 rfl rfl (Value.int .u64 0) _ (r_addE rfl rfl (by simp only [IntKind.wrap_u64]; omega)) ?_
  refine FWl.val 11 rfl rfl (Value.int .u64 0) _ (r_assign) ?_
  refine FWl.nil (hK7 _ _ ?_)
  clear hK7 K7
  refine FW.seq_k fun K8 hK8 => ?_
  refine FW.region rfl ?_
  refine FWl.val 31 rfl rfl (Value.int .u64 0) _ (r_move) ?_
  refine FWl.val 32 rfl rfl (Value.int .u64 0) _ (r_andE rfl rfl (by rfl)) ?_
  refine FWl.val 12 rfl rfl (Value.int .u64 0) _ (r_assign) ?_
  refine FWl.nil (hK8 _ _ ?_)
  clear hK8 K8
  refine FW.seq_k fun K9 hK9 => ?_
  refine FW.region rfl ?_
  refine FWl.val 33 rfl rfl (Value.int .u64 0) _ (r_move) ?_
  refine FWl.val 34 rfl rfl (Value.int .u64 0) _ (r_shrE rfl rfl (by decide) (by rfl)) ?_
  refine FWl.val 13 rfl rfl (Value.int .u64 0) _ (r_assign) ?_
  refine FWl.nil (hK9 _ _ ?_)
  clear hK9 K9
  refine FW.seq_k fun K10 hK10 => ?_
  refine FW.region rfl ?_
  refine FWl.val 35 rfl rfl (Value.int .u64 0) _ (r_move) ?_
  refine FWl.val 36 rfl rfl (Value.int .u64 1) _ (r_move) ?_
  refine FWl.val 37 rfl rfl (Value.int .u64 0) _ (r_move) ?_
  refine FWl.val 38 rfl rfl (Value.int .u64 0) _ (r_mulE rfl rfl (by simp only [IntKind.wrap_u64]; omega)) ?_
  refine FWl.val 39 rfl rfl (Value.int .u64 0) _ (r_addE rfl rfl (by simp only [IntKind.wrap_u64]; omega)) ?_
  refine FWl.val 12 rfl rfl (Value.int .u64 0) _ (r_assign) ?_
  refine FWl.nil (hK10 _ _ ?_)
  clear hK10 K10
  refine FW.seq_k fun K11 hK11 => ?_
  refine FW.region rfl ?_
  refine FWl.val 40 rfl rfl (Value.int .u64 0) _ (r_move) ?_
  refine FWl.val 41 rfl rfl (Value.int .u64 0) _ (r_move) ?_
  refine FWl.val 42 rfl rfl (Value.int .u64 0) _ (r_mulE rfl rfl (by simp only [IntKind.wrap_u64]; omega)) ?_
  refine FWl.val 43 rfl rfl (Value.int .u64 0) _ (r_move) ?_
  refine FWl.val 44 rfl rfl (Value.int .u64 0) _ (r_addE rfl rfl (by simp only [IntKind.wrap_u64]; omega)) ?_
  refine FWl.val 45 rfl rfl (Value.int .u64 0) _ (r_move) ?_
  refine FWl.val 46 rfl rfl (Value.int .u64 0) _ (r_shrE rfl rfl (by decide) (by rfl)) ?_
  refine FWl.val 47 rfl rfl (Value.int .u64 0) _ (r_addE rfl rfl (by simp only [IntKind.wrap_u64]; omega)) ?_
  refine FWl.val 4 rfl rfl (Value.int .u64 0) _ (r_assign) ?_
  refine FWl.nil (hK11 _ _ ?_)
  clear hK11 K11
  refine FW.seq_k fun K12 hK12 => ?_
  refine FW.region rfl ?_
  refine FWl.val 48 rfl rfl (Value.int .u64 1) _ (r_move) ?_
  refine FWl.val 49 rfl rfl (Value.int .u64 n) _ (r_move) ?_
  refine FWl.val 50 rfl rfl (Value.int .u64 n) _ (r_mulE rfl rfl (by simp only [IntKind.wrap_u64]; omega)) ?_
  refine FWl.val 5 rfl rfl (Value.int .u64 n) _ (r_assign) ?_
  refine FWl.nil (hK12 _ _ ?_)
  clear hK12 K12
  refine FW.ret (?_)
  refine ret_tmp2 (v := Value.int .u64 0) (v' := Value.int .u64 n) Try.results67 (.inl rfl) rfl rfl ?_
  exact ⟨rfl, hE⟩

theorem Mul_c {n : Int} {w : World} {C : Gh} (hH : Has w C) (h0 : 0 ≤ n) (h1 : n ≤ 100000) : Ret Try.prog 61 #[.int .u64 1, .int .u64 n] w fun v w' => v = .tuple #[.int .u64 0, .int .u64 n] ∧ Ext w.heap.size w C w' C := by
  refine Ret.of Try.func61 rfl Try.ntmps61 rfl ?_
  have hE := Ext.refl (B := w.heap.size) hH
  refine FW.seq_k fun K1 hK1 => ?_
  refine FW.region rfl ?_
  refine FWl.val 4 rfl rfl (Value.int .u64 0) _ (r_assign) ?_
  refine FWl.val 5 rfl rfl (Value.int .u64 0) _ (r_assign) ?_
  refine FWl.nil (hK1 _ _ ?_)
  clear hK1 K1
  refine FW.seq_k fun K2 hK2 => ?_
  refine FW.cond false rfl (fun h => nomatch h) (fun _ => ?_)
  refine FW.skip (hK2 _ _ ?_)
  clear hK2 K2
  refine FW.seq_k fun K3 hK3 => ?_
  refine FW.region rfl ?_
  refine FWl.val 23 rfl rfl (Value.int .u64 1) _ (r_move) ?_
  refine FWl.val 24 rfl rfl (Value.int .u64 n) _ (r_move) ?_
  refine FWl.call 25 rfl rfl 67 #[Value.int .u64 1, Value.int .u64 n] (r_call2 Try.call67 rfl rfl rfl) ((Mul64_c hH (n := n) (by omega) (by omega)).mono ?_)
  rintro _ w1 ⟨rfl, e2⟩
  have hE_3 := hE.step e2
  refine FWl.val 22 rfl rfl (Value.tuple #[Value.int .u64 0, Value.int .u64 n]) _ (r_move) ?_
  refine FWl.val 26 rfl rfl (Value.int .u64 0) _ (r_extract rfl rfl) ?_
  refine FWl.val 27 rfl rfl (Value.int .u64 n) _ (r_extract rfl rfl) ?_
  refine FWl.val 8 rfl rfl (Value.int .u64 0) _ (r_assign) ?_
  refine FWl.val 9 rfl rfl (Value.int .u64 n) _ (r_assign) ?_
  refine FWl.nil (hK3 _ _ ?_)
  clear hK3 K3
  refine FW.seq_k fun K4 hK4 => ?_
  refine FW.region rfl ?_
  refine FWl.val 28 rfl rfl (Value.int .u64 0) _ (r_move) ?_
  refine FWl.val 29 rfl rfl (Value.int .u64 n) _ (r_move) ?_
  refine FWl.val 4 rfl rfl (Value.int .u64 0) _ (r_assign) ?_
  refine FWl.val 5 rfl rfl (Value.int .u64 n) _ (r_assign) ?_
  refine FWl.nil (hK4 _ _ ?_)
  clear hK4 K4
  refine FW.ret (?_)
  refine ret_tmp2 (v := Value.int .u64 0) (v' := Value.int .u64 n) Try.results61 (.inl rfl) rfl rfl ?_
  exact ⟨rfl, hE_3⟩

theorem Repeat_c {A : Option Addr} {c n : Nat} {x : Int} {w : World} {C : Gh} (hH : Has w C) (hs : Sl (kInt .i64) C A c [x]) (hn0 : 1 ≤ n) (hn1 : n ≤ 10000) : Ret Try.prog 44 #[.slice A 1 c, .int .i64 (n : Int)] w fun v w' => ∃ (g : Nat) (C' : Gh), v = .slice (some ⟨g, 0, none⟩) n n ∧ Ext w.heap.size w C w' C' ∧ St w' C' g (ri (List.replicate n x)) 3 ∧ w.heap.size ≤ g := by
  refine Ret.of Try.func44 rfl Try.ntmps44 rfl ?_
  have hE := Ext.refl (B := w.heap.size) hH
  refine FW.seq_k fun K1 hK1 => ?_
  refine FW.region rfl ?_
  refine FWl.val 4 rfl rfl (Value.slice none 0 0) _ (r_assign) ?_
  refine FWl.nil (hK1 _ _ ?_)
  clear hK1 K1
  refine FW.seq_k fun K2 hK2 => ?_
  refine FW.seq_k fun K3 hK3 => ?_
  refine FW.region rfl ?_
  refine FWl.val 9 rfl rfl (Value.int .i64 (n : Int)) _ (r_move) ?_
  refine FWl.val 10 rfl rfl (Value.bool (decide ((n : Int) < 0))) _ (r_lss rfl rfl) ?_
  refine FWl.nil (hK3 _ _ ?_)
  clear hK3 K3
  refine FW.cond (decide ((n : Int) < 0)) rfl (fun hc1 => ?_) (fun hc1 => ?_)
  · have hp2 : (n : Int) < 0 := of_decide_eq_true hc1
    exfalso; first | omega | simp_all
  · have hp3 : ¬ ((n : Int) < 0) := of_decide_eq_false hc1
    refine FW.skip (hK2 _ _ ?_)
    clear hK2 K2
    refine FW.seq_k fun K4 hK4 => ?_
    refine FW.region rfl ?_
    refine FWl.val 13 rfl rfl (Value.slice A (([x]).length) c) _ (r_move) ?_
    refine FWl.val 14 rfl rfl (Value.int .i64 ((([x]).length : Nat) : Int)) _ (r_lenSl Try.underlying39 rfl) ?_
    refine FWl.val 15 rfl rfl (Value.int .u64 1) _ (r_convI Try.runUnderlying3 Try.runUnderlying114 rfl (by rfl)) ?_
    refine FWl.val 16 rfl rfl (Value.int .i64 (n : Int)) _ (r_move) ?_
    refine FWl.val 17 rfl rfl (Value.int .u64 (n : Int)) _ (r_convI Try.runUnderlying3 Try.runUnderlying114 rfl (by first | rfl | (simp only [IntKind.wrap_u64, IntKind.wrap_i64]; omega))) ?_
    refine FWl.call 18 rfl rfl 61 #[Value.int .u64 1, Value.int .u64 (n : Int)] (r_call2 Try.call61 rfl rfl rfl) ((Mul_c hH (n := (n : Int)) (by omega) (by omega)).mono ?_)
    rintro _ w4 ⟨rfl, e5⟩
    have hE_6 := hE.step e5
    have hH7 := e5.has
    refine FWl.val 12 rfl rfl (Value.tuple #[Value.int .u64 0, Value.int .u64 (n : Int)]) _ (r_move) ?_
    refine FWl.val 19 rfl rfl (Value.int .u64 0) _ (r_extract rfl rfl) ?_
    refine FWl.val 20 rfl rfl (Value.int .u64 (n : Int)) _ (r_extract rfl rfl) ?_
    refine FWl.val 5 rfl rfl (Value.int .u64 0) _ (r_assign) ?_
    refine FWl.val 6 rfl rfl (Value.int .u64 (n : Int)) _ (r_assign) ?_
    refine FWl.nil (hK4 _ _ ?_)
    clear hK4 K4
    refine FW.seq_k fun K5 hK5 => ?_
    refine FW.seq_k fun K6 hK6 => ?_
    refine FW.region rfl ?_
    refine FWl.val 21 rfl rfl (Value.int .u64 0) _ (r_move) ?_
    refine FWl.val 22 rfl rfl (Value.bool false) _ (r_gtr (a := 0) (b := 0) rfl rfl) ?_
    refine FWl.val 23 rfl rfl (Value.bool false) _ (r_move) ?_
    refine FWl.val 24 rfl rfl (Value.int .u64 (n : Int)) _ (r_move) ?_
    refine FWl.val 25 rfl rfl (Value.bool (decide (9223372036854775807 < (n : Int)))) _ (r_gtr rfl rfl) ?_
    refine FWl.val 26 rfl rfl (Value.bool (decide (9223372036854775807 < (n : Int)))) _ (r_pick (t := false) rfl) ?_
    refine FWl.nil (hK6 _ _ ?_)
    clear hK6 K6
    refine FW.cond (decide (9223372036854775807 < (n : Int))) rfl (fun hc8 => ?_) (fun hc8 => ?_)
    · have hp9 : 9223372036854775807 < (n : Int) := of_decide_eq_true hc8
      exfalso; first | omega | simp_all
    · have hp10 : ¬ (9223372036854775807 < (n : Int)) := of_decide_eq_false hc8
      refine FW.skip (hK5 _ _ ?_)
      clear hK5 K5
      refine FW.seq_k fun K7 hK7 => ?_
      refine FW.region rfl ?_
      refine FWl.val 28 rfl rfl (Value.int .u64 (n : Int)) _ (r_move) ?_
      refine FWl.val 29 rfl rfl (Value.int .i64 ((n : Nat) : Int)) _ (r_convI Try.runUnderlying114 Try.runUnderlying3 rfl (by simp only [IntKind.wrap_i64]; omega)) ?_
      refine FWl.makeI (n := n) rfl rfl rfl Try.underlying39 info3 zero3 rfl rfl rfl rfl (by omega) hH7 ?_
      intro g11 w12 st13 e14 hg15
      have hge_st13_hE := Nat.le_trans hE_6.size (Nat.le_of_eq hg15)
      have hE_17 := hE_6.step e14
      have hH18 := e14.has
      have hlt_st13 := st13.lt
      have hl16 : (List.replicate n (0 : Int)).length = n := by simp
      refine FWl.val 7 rfl rfl (Value.slice (some ⟨g11, 0, none⟩) n n) _ (r_assign) ?_
      refine FWl.nil (hK7 _ _ ?_)
      clear hK7 K7
      refine FW.seq_k fun K8 hK8 => ?_
      refine FW.region rfl ?_
      refine FWl.val 31 rfl rfl (Value.slice (some ⟨g11, 0, none⟩) n n) _ (r_move) ?_
      refine FWl.val 32 rfl rfl (Value.slice A (([x]).length) c) _ (r_move) ?_
      refine FWl.copyH rfl rfl rfl Try.underlying39 (by rw [info3]; rfl) st13 hs (by simp; omega) hH18 (by simp) rfl rfl hl16 ?_
      intro w19 m20 st13_21
      have hl22 : ([x] ++ (List.replicate n 0).drop ([x]).length).length = n := by simp; omega
      have hE_23 := hE_17.trans (m20.ext hE_17.size (by omega))
      have hH24 := m20.has
      refine FWl.val 8 rfl rfl (Value.int .i64 ((([x]).length : Nat) : Int)) _ (r_assign) ?_
      refine FWl.nil (hK8 _ _ ?_)
      clear hK8 K8
      refine FW.seq_k fun K9 hK9 => ?_
      refine FW.block ?_
      refine FW.loop_m (fun msr T w25 => ∃ (C26 : Gh) (k : Nat) (row : List Int), Holds T [(0, Value.slice A (([x]).length) c), (1, Value.int .i64 (n : Int)), (4, Value.slice none 0 0), (5, Value.int .u64 0), (6, Value.int .u64 (n : Int)), (7, Value.slice (some ⟨g11, 0, none⟩) n n), (8, Value.int .i64 (k : Int)), (9, Value.int .i64 (n : Int)), (10, Value.bool (decide ((n : Int) < 0))), (12, Value.tuple #[Value.int .u64 0, Value.int .u64 (n : Int)]), (13, Value.slice A (([x]).length) c), (14, Value.int .i64 ((([x]).length : Nat) : Int)), (15, Value.int .u64 1), (16, Value.int .i64 (n : Int)), (17, Value.int .u64 (n : Int)), (18, Value.tuple #[Value.int .u64 0, Value.int .u64 (n : Int)]), (19, Value.int .u64 0), (20, Value.int .u64 (n : Int)), (21, Value.int .u64 0), (22, Value.bool false), (23, Value.bool false), (24, Value.int .u64 (n : Int)), (25, Value.bool (decide (9223372036854775807 < (n : Int)))), (26, Value.bool (decide (9223372036854775807 < (n : Int)))), (28, Value.int .u64 (n : Int)), (29, Value.int .i64 ((n : Nat) : Int)), (30, Value.slice (some ⟨g11, 0, none⟩) n n), (31, Value.slice (some ⟨g11, 0, none⟩) n n), (32, Value.slice A (([x]).length) c), (33, Value.int .i64 ((([x]).length : Nat) : Int))] ∧ Ext (w.heap.size) w19 C w25 C26 ∧ (St w25 C26 g11 (ri row) 3) ∧ (row.length = n) ∧ (1 ≤ k ∧ k ≤ n) ∧ (row.take k = List.replicate k x) ∧ msr = n - k) (n - 1) ?_ ?_
      · exact ⟨C, 1, ([x] ++ (List.replicate n 0).drop ([x]).length), ⟨rfl, rfl, rfl, rfl, rfl, rfl, rfl, rfl, rfl, rfl, rfl, rfl, rfl, rfl, rfl, rfl, rfl, rfl, rfl, rfl, rfl, rfl, rfl, rfl, rfl, rfl, rfl, rfl, rfl, rfl, trivial⟩, Ext.refl hH24, st13_21, hl22, ⟨by omega, by omega⟩, rep_head hn0, rfl⟩
      · rintro msr T w25 ⟨C26, k, row, hT, hL1, stR, hlR, hk, hrow, rfl⟩
        refine FW.frame hT fun B1 => ?_
        have hE_27 := hE_23.trans hL1
        have hH29 := hL1.has
        have hrlt := stR.lt
        refine FW.seq_k fun K10 hK10 => ?_
        refine FW.seq_k fun K11 hK11 => ?_
        refine FW.region rfl ?_
        refine FWl.val 34 rfl rfl (Value.int .i64 (k : Int)) _ (r_move) ?_
        refine FWl.val 35 rfl rfl (Value.slice (some ⟨g11, 0, none⟩) n n) _ (r_move) ?_
        refine FWl.val 36 rfl rfl (Value.int .i64 ((n : Nat) : Int)) _ (r_lenSl Try.underlying39 rfl) ?_
        refine FWl.val 37 rfl rfl (Value.bool (decide ((k : Int) < ((n : Nat) : Int)))) _ (r_lss rfl rfl) ?_
        refine FWl.nil (hK11 _ _ ?_)
        clear hK11 K11
        refine FW.cond (decide ((k : Int) < ((n : Nat) : Int))) rfl (fun hc30 => ?_) (fun hc30 => ?_)
        · have hp31 : (k : Int) < ((n : Nat) : Int) := of_decide_eq_true hc30
          refine FW.skip (hK10 _ _ ?_)
          clear hK10 K10
          refine FW.block ?_
          refine FW.regionDraw mixed (SS C26 (fun k => k ≠ g11) w25.drew) [] [(0, true), (1, true), (2, true), (3, true), (4, true), (5, false), (6, false), (7, false), (8, false), (9, false)] rfl (by kernel_rfl) ?_
          have e33 : Ext w25.heap.size w25 C26 w25.drew C26 := (Ext.refl hH29).drew
          generalize w25.drew = w32 at *
          have hE_34 := hE_27.step e33
          have hL1_35 := hL1.trans (e33.mono hE_27.size)
          have stR_36 := stR.call e33
          have hH37 := e33.has
          have hS38 : SS C26 (fun k => k ≠ g11) w32 w32 := SS.refl hH37
          have hle39 := Gle.refl C26
          refine FWs.take rfl 38 rfl rfl (Value.int .i64 (k : Int)) hS38 (fun _ _ => r_move) ?_
          refine FWs.take rfl 39 rfl rfl (Value.slice (some ⟨g11, 0, none⟩) n n) hS38 (fun _ _ => r_move) ?_
          refine FWs.take rfl 40 rfl rfl (Value.int .i64 (k : Int)) hS38 (fun _ _ => r_move) ?_
          refine FWs.take rfl 41 rfl rfl (Value.slice (some ⟨g11, k, none⟩) (n - k) (n - k)) hS38 (fun _ _ => r_sliceLI Try.underlying39 Try.sizeOf3 rfl rfl (by omega)) ?_
          refine FWs.take rfl 42 rfl rfl (Value.slice (some ⟨g11, 0, none⟩) n n) hS38 (fun _ _ => r_move) ?_
          refine FWs.val rfl 43 rfl rfl (Value.int .i64 (k : Int)) _ (r_move) (.inr hS38) ?_
          refine FWs.val rfl 44 rfl rfl (Value.slice (some ⟨g11, 0, none⟩) k n) _ (r_sliceHI Try.underlying39 Try.sizeOf3 rfl rfl (by omega)) (.inr hS38) ?_
          refine FWs.copyW rfl rfl rfl rfl Try.underlying39 (by rw [info3]; rfl) stR_36 hH37 rfl rfl hlR (by omega) ?_
          intro w40 m41 stR_42
          have hl43 : (row.take k ++ row.take (min k (n - k)) ++ row.drop (k + min k (n - k))).length = n := rep_len hlR (by omega)
          have hL1_45 := hL1_35.trans (m41.ext hE_34.size (by omega))
          have hH46 := m41.has
          have hS47 := hS38.mutN m41 hH46 hle39 (fun h => h rfl)
          refine ⟨.inr hS47, ?_⟩
          refine FWs.val rfl 46 rfl rfl (Value.int .i64 ((k : Int) + ((min k (n - k) : Nat) : Int))) _ (r_addI rfl rfl (by omega) (by omega)) (.inr hS47) ?_
          refine FWs.val rfl 8 rfl rfl (Value.int .i64 ((k : Int) + ((min k (n - k) : Nat) : Int))) _ (r_assign) (.inr hS47) ?_
          refine FWs.nil (inBlockF_norm (thenF_norm (?_)))
          refine ⟨_, ⟨C26, _, (row.take k ++ row.take (min k (n - k)) ++ row.drop (k + min k (n - k))), ⟨rfl, rfl, rfl, rfl, rfl, rfl, rfl, rfl, rfl, rfl, rfl, rfl, rfl, rfl, rfl, rfl, rfl, rfl, rfl, rfl, rfl, rfl, rfl, rfl, rfl, rfl, rfl, rfl, rfl, rfl, trivial⟩, hL1_45, stR_42, hl43, ⟨by omega, by omega⟩, rep_dbl hlR hrow (by omega), rfl⟩, ?_⟩
          omega
        · have hp48 : ¬ ((k : Int) < ((n : Nat) : Int)) := of_decide_eq_false hc30
          refine FW.exit (thenF_exit (thenF_exit (inBlockF_hit (hK9 _ _ ?_))))
          clear hK9 K9 hK10 K10
          refine FW.seq_k fun K12 hK12 => ?_
          refine FW.region rfl ?_
          refine FWl.val 47 rfl rfl (Value.slice (some ⟨g11, 0, none⟩) n n) _ (r_move) ?_
          refine FWl.val 4 rfl rfl (Value.slice (some ⟨g11, 0, none⟩) n n) _ (r_assign) ?_
          refine FWl.nil (hK12 _ _ ?_)
          clear hK12 K12
          refine FW.ret (?_)
          refine ret_tmp (v := Value.slice (some ⟨g11, 0, none⟩) n n) Try.results44 (.inl rfl) rfl ?_
          have hrep : row = List.replicate n x := by rw [← show k = n by omega, ← hrow, List.take_of_length_le (by omega)]
          subst hrep
          exact ⟨g11, C26, rfl, hE_27, stR, by omega⟩

end Go.Proofs.Ytlofomkhiefbmaa
