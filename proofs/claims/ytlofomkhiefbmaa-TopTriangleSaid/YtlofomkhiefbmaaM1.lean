/- walks -/
import Derived.Test.YtlofomkhiefbmaaJF
import Derived.Test.YtlofomkhiefbmaaJT
import Derived.Test.YtlofomkhiefbmaaPM
set_option maxRecDepth 10000
set_option linter.unusedVariables false
set_option linter.unusedSimpArgs false
namespace Go.Proofs.Ytlofomkhiefbmaa
open Go.RowKit
theorem Long_c {A1 A2 : Option Addr} {c1 c2 : Nat} {a b : List Int} {w : World} {C : Gh} (hH : Has w C) (hsa : Sl (kInt .i64) C A1 c1 a) (hsb : Sl (kInt .i64) C A2 c2 b) : Ret Try.prog 23 #[.slice A1 a.length c1, .slice A2 b.length c2] w fun v w' => v = .bool (decide (400 < a.length ∨ 400 < b.length)) ∧ Ext w.heap.size w C w' C := by
  refine Ret.of Try.func23 rfl Try.ntmps23 rfl ?_
  have hE := Ext.refl (B := w.heap.size) hH
  have hal := hsa.bd; have hbl := hsb.bd
  refine FW.seq_k fun K1 hK1 => ?_
  refine FW.region rfl ?_
  refine FWl.val 4 rfl rfl (Value.bool false) _ (r_assign) ?_
  refine FWl.nil (hK1 _ _ ?_)
  clear hK1 K1
  refine FW.seq_k fun K2 hK2 => ?_
  refine FW.region rfl ?_
  refine FWl.val 5 rfl rfl (Value.slice A1 a.length c1) _ (r_move) ?_
  refine FWl.val 6 rfl rfl (Value.int .i64 ((a.length : Nat) : Int)) _ (r_lenSl Try.underlying39 rfl) ?_
  refine FWl.val 7 rfl rfl (Value.bool (decide (400 < ((a.length : Nat) : Int)))) _ (r_gtr rfl rfl) ?_
  refine FWl.val 8 rfl rfl (Value.bool (decide (400 < ((a.length : Nat) : Int)))) _ (r_move) ?_
  cases hb1 : (decide (400 < ((a.length : Nat) : Int))) with
  | true =>
    have hp2 : 400 < ((a.length : Nat) : Int) := of_decide_eq_true hb1
    refine FWl.skip 9 rfl rfl ?_
    refine FWl.skip 10 rfl rfl ?_
    refine FWl.skip 11 rfl rfl ?_
    refine FWl.val 12 rfl rfl (Value.bool true) _ (r_pick (t := true) rfl) ?_
    refine FWl.val 4 rfl rfl (Value.bool true) _ (r_assign) ?_
    refine FWl.nil (hK2 _ _ ?_)
    clear hK2 K2
    refine FW.ret (?_)
    refine ret_tmp (v := Value.bool true) Try.results23 (.inl rfl) rfl ?_
    exact ⟨congrArg Value.bool (by rw [Bool.eq_iff_iff]; simp only [decide_eq_true_eq, true_iff, false_iff, Bool.false_eq_true, iff_self, Bool.not_eq_true', decide_eq_false_iff_not]; omega), hE⟩
  | false =>
    have hp3 : ¬ (400 < ((a.length : Nat) : Int)) := of_decide_eq_false hb1
    refine FWl.val 9 rfl rfl (Value.slice A2 b.length c2) _ (r_move) ?_
    refine FWl.val 10 rfl rfl (Value.int .i64 ((b.length : Nat) : Int)) _ (r_lenSl Try.underlying39 rfl) ?_
    refine FWl.val 11 rfl rfl (Value.bool (decide (400 < ((b.length : Nat) : Int)))) _ (r_gtr rfl rfl) ?_
    refine FWl.val 12 rfl rfl (Value.bool (decide (400 < ((b.length : Nat) : Int)))) _ (r_pick (t := false) rfl) ?_
    refine FWl.val 4 rfl rfl (Value.bool (decide (400 < ((b.length : Nat) : Int)))) _ (r_assign) ?_
    refine FWl.nil (hK2 _ _ ?_)
    clear hK2 K2
    refine FW.ret (?_)
    refine ret_tmp (v := Value.bool (decide (400 < ((b.length : Nat) : Int)))) Try.results23 (.inl rfl) rfl ?_
    exact ⟨congrArg Value.bool (by rw [Bool.eq_iff_iff]; simp only [decide_eq_true_eq, true_iff, false_iff, Bool.false_eq_true, iff_self, Bool.not_eq_true', decide_eq_false_iff_not]; omega), hE⟩

theorem slot_c {A1 A2 A3 : Option Addr} {c1 c2 c3 gf : Nat} {a b : List Int} {rows : List (List Int)} {w : World} {C : Gh} (hH : Has w C) (stf : St w C gf [.slice A1 a.length c1, .slice A2 b.length c2, .slice A3 rows.length c3] 100) (hsa : Sl (kInt .i64) C A1 c1 a) (hsb : Sl (kInt .i64) C A2 c2 b) (hsr : Sl (kSl (kInt .i64)) C A3 c3 rows) {k : Int} (h1 : -9000000 ≤ k) (h2 : k ≤ 9000000) : Ret Try.prog 46 #[.pointer (some ⟨gf, 0, none⟩), .int .i64 k] w fun v w' => v = .int .i64 (k + b.length + 1) ∧ Ext w.heap.size w C w' C := by
  refine Ret.of Try.func46 rfl Try.ntmps46 rfl ?_
  have hE := Ext.refl (B := w.heap.size) hH
  have hal := hsa.bd; have hbl := hsb.bd
  have hbl := hsb.bd
  refine FW.seq_k fun K1 hK1 => ?_
  refine FW.region rfl ?_
  refine FWl.val 4 rfl rfl (Value.int .i64 0) _ (r_assign) ?_
  refine FWl.nil (hK1 _ _ ?_)
  clear hK1 K1
  refine FW.seq_k fun K2 hK2 => ?_
  refine FW.region rfl ?_
  refine FWl.val 5 rfl rfl (Value.int .i64 k) _ (r_move) ?_
  refine FWl.val 6 rfl rfl (Value.pointer (some ⟨gf, 0, none⟩)) _ (r_move) ?_
  refine FWl.val 7 rfl rfl (Value.pointer (some ⟨gf, 0, none⟩)) _ (r_nilCheck rfl) ?_
  refine FWl.val 8 rfl rfl (Value.pointer (some ⟨gf, 1, none⟩)) _ (r_fieldAddrS Try.underlying100 rfl Try.sizeOf39 rfl rfl rfl rfl) ?_
  refine FWl.val 9 rfl rfl (Value.slice A2 b.length c2) _ (r_load1 Try.isAgg39 rfl (stf.cell rfl)) ?_
  refine FWl.val 10 rfl rfl (Value.int .i64 ((b.length : Nat) : Int)) _ (r_lenSl Try.underlying39 rfl) ?_
  refine FWl.val 11 rfl rfl (Value.int .i64 (k + ((b.length : Nat) : Int))) _ (r_addI rfl rfl (by omega) (by omega)) ?_
  refine FWl.val 12 rfl rfl (Value.int .i64 ((k + ((b.length : Nat) : Int)) + 1)) _ (r_addI rfl rfl (by omega) (by omega)) ?_
  refine FWl.val 4 rfl rfl (Value.int .i64 ((k + ((b.length : Nat) : Int)) + 1)) _ (r_assign) ?_
  refine FWl.nil (hK2 _ _ ?_)
  clear hK2 K2
  refine FW.ret (?_)
  refine ret_tmp (v := Value.int .i64 ((k + ((b.length : Nat) : Int)) + 1)) Try.results46 (.inl rfl) rfl ?_
  exact ⟨rfl, hE⟩

theorem slide_c {A1 A2 A3 : Option Addr} {c1 c2 c3 gf : Nat} {a b : List Int} {rows : List (List Int)} {w : World} {C : Gh} (hH : Has w C) (stf : St w C gf [.slice A1 a.length c1, .slice A2 b.length c2, .slice A3 rows.length c3] 100) (hsa : Sl (kInt .i64) C A1 c1 a) (hsb : Sl (kInt .i64) C A2 c2 b) (hsr : Sl (kSl (kInt .i64)) C A3 c3 rows) {x k : Int} (h1 : 0 ≤ x) (h2 : x ≤ a.length) (h3 : x - k ≤ b.length) (h4 : -9000000 ≤ k) (h5 : k ≤ 9000000) : Ret Try.prog 45 #[.pointer (some ⟨gf, 0, none⟩), .int .i64 x, .int .i64 k] w fun v w' => v = .int .i64 (slide a b x k) ∧ Ext w.heap.size w C w' C := by
  refine Ret.of Try.func45 rfl Try.ntmps45 rfl ?_
  have hE := Ext.refl (B := w.heap.size) hH
  have hal := hsa.bd; have hbl := hsb.bd
  refine FW.seq_k fun K1 hK1 => ?_
  refine FW.region rfl ?_
  refine FWl.val 6 rfl rfl (Value.int .i64 0) _ (r_assign) ?_
  refine FWl.nil (hK1 _ _ ?_)
  clear hK1 K1
  refine FW.seq_k fun K2 hK2 => ?_
  refine FW.block ?_
  refine FW.loop_m (fun msr T w1 => ∃  (x' : Int), Holds T [(0, Value.pointer (some ⟨gf, 0, none⟩)), (1, Value.int .i64 x'), (2, Value.int .i64 k), (6, Value.int .i64 0)] ∧ Ext (w.heap.size) w C w1 C ∧ (0 ≤ x' ∧ x' ≤ a.length) ∧ (x' - k ≤ b.length) ∧ (slide a b x k = slide a b x' k) ∧ msr = x'.toNat) (x.toNat) ?_ ?_
  · exact ⟨x, ⟨rfl, rfl, rfl, rfl, trivial⟩, Ext.refl hH, ⟨h1, h2⟩, h3, rfl, rfl⟩
  · rintro msr T w1 ⟨x', hT, hL1, h1', h2', hq, rfl⟩
    refine FW.frame hT fun B1 => ?_
    have hE_3 := hE.step hL1
    have stf_4 := stf.call hL1
    have hH5 := hL1.has
    obtain ⟨h1a, h1b⟩ := h1'
    refine FW.seq_k fun K3 hK3 => ?_
    refine FW.seq_k fun K4 hK4 => ?_
    refine FW.regionDraw mixed (SS C (fun _ => True) w1.drew) [] [(0, false), (1, false), (2, false), (3, true), (4, false), (5, false), (6, false), (7, false), (8, false), (9, true), (10, true), (11, true), (12, true), (13, true), (14, true), (15, true), (16, true), (17, true), (18, true), (19, true), (20, true), (21, true), (22, false), (23, false), (24, false), (25, false), (26, false), (27, false), (28, false)] rfl (by kernel_rfl) ?_
    have e7 : Ext w1.heap.size w1 C w1.drew C := (Ext.refl hH5).drew
    generalize w1.drew = w6 at *
    have hE_8 := hE_3.step e7
    have hL1_9 := hL1.step e7
    have stf_10 := stf_4.call e7
    have hH11 := e7.has
    have hS12 : SS C (fun _ => True) w6 w6 := SS.refl hH11
    have hle13 := Gle.refl C
    refine FWs.val rfl 7 rfl rfl (Value.int .i64 x') _ (r_move) (.inr hS12) ?_
    refine FWs.val rfl 8 rfl rfl (Value.bool (decide (0 < x'))) _ (r_gtr rfl rfl) (.inr hS12) ?_
    refine FWs.val rfl 9 rfl rfl (Value.bool (decide (0 < x'))) _ (r_move) (.inr hS12) ?_
    cases hb14 : (decide (0 < x')) with
    | true =>
      have hp15 : 0 < x' := of_decide_eq_true hb14
      refine FWs.take rfl 10 rfl rfl (Value.int .i64 x') hS12 (fun _ _ => r_move) ?_
      refine FWs.val rfl 11 rfl rfl (Value.int .i64 k) _ (r_move) (.inr hS12) ?_
      refine FWs.val rfl 12 rfl rfl (Value.int .i64 (x' - k)) _ (r_subI rfl rfl (by omega) (by omega)) (.inr hS12) ?_
      refine FWs.val rfl 13 rfl rfl (Value.bool (decide (0 < (x' - k)))) _ (r_gtr rfl rfl) (.inr hS12) ?_
      refine FWs.val rfl 14 rfl rfl (Value.bool (decide (0 < (x' - k)))) _ (r_pick (t := true) rfl) (.inr hS12) ?_
      refine FWs.val rfl 15 rfl rfl (Value.bool (decide (0 < (x' - k)))) _ (r_move) (.inr hS12) ?_
      cases hb16 : (decide (0 < (x' - k))) with
      | true =>
        have hp17 : 0 < (x' - k) := of_decide_eq_true hb16
        refine FWs.take rfl 16 rfl rfl (Value.pointer (some ⟨gf, 0, none⟩)) hS12 (fun _ _ => r_move) ?_
        refine FWs.take rfl 17 rfl rfl (Value.pointer (some ⟨gf, 0, none⟩)) hS12 (fun _ _ => r_nilCheck rfl) ?_
        refine FWs.take rfl 18 rfl rfl (Value.pointer (some ⟨gf, 0, none⟩)) hS12 (fun _ _ => r_fieldAddrS Try.underlying100 rfl Try.sizeOf39 rfl rfl rfl rfl) ?_
        refine FWs.take rfl 19 rfl rfl (Value.slice A1 a.length c1) hS12 (fun _ hS' => r_load1 Try.isAgg39 rfl (hS'.cell stf_10 trivial rfl)) ?_
        refine FWs.take rfl 20 rfl rfl (Value.int .i64 x') hS12 (fun _ _ => r_move) ?_
        refine FWs.take rfl 21 rfl rfl (Value.int .i64 (x' - 1)) hS12 (fun _ _ => r_subI rfl rfl (by omega) (by omega)) ?_
        obtain ⟨x18, hx19⟩ := get_some (xs := a) (j := (x' - 1).toNat) (by omega)
        obtain ⟨cs20, hr21, hg22⟩ := hsa.at_ _ _ hx19
        obtain rfl := hr21
        refine FWs.take rfl 22 rfl rfl (ptrAt A1 ((x' - 1).toNat * 1)) hS12 (fun _ _ => r_indexAddr Try.underlying39 Try.sizeOf3 rfl rfl (hsa.isSome (by omega)) (by omega) (by omega)) ?_
        refine FWs.take rfl 23 rfl rfl (Value.int .i64 x18) hS12 (fun _ hS' => r_loadG1 (i := 0) Try.isAgg3 hg22 rfl rfl hS'.has) ?_
        refine FWs.take rfl 24 rfl rfl (Value.pointer (some ⟨gf, 0, none⟩)) hS12 (fun _ _ => r_move) ?_
        refine FWs.take rfl 25 rfl rfl (Value.pointer (some ⟨gf, 0, none⟩)) hS12 (fun _ _ => r_nilCheck rfl) ?_
        refine FWs.take rfl 26 rfl rfl (Value.pointer (some ⟨gf, 1, none⟩)) hS12 (fun _ _ => r_fieldAddrS Try.underlying100 rfl Try.sizeOf39 rfl rfl rfl rfl) ?_
        refine FWs.take rfl 27 rfl rfl (Value.slice A2 b.length c2) hS12 (fun _ hS' => r_load1 Try.isAgg39 rfl (hS'.cell stf_10 trivial rfl)) ?_
        refine FWs.take rfl 28 rfl rfl (Value.int .i64 x') hS12 (fun _ _ => r_move) ?_
        refine FWs.val rfl 29 rfl rfl (Value.int .i64 k) _ (r_move) (.inr hS12) ?_
        refine FWs.val rfl 30 rfl rfl (Value.int .i64 (x' - k)) _ (r_subI rfl rfl (by omega) (by omega)) (.inr hS12) ?_
        refine FWs.val rfl 31 rfl rfl (Value.int .i64 ((x' - k) - 1)) _ (r_subI rfl rfl (by omega) (by omega)) (.inr hS12) ?_
        obtain ⟨x23, hx24⟩ := get_some (xs := b) (j := ((x' - k) - 1).toNat) (by omega)
        obtain ⟨cs25, hr26, hg27⟩ := hsb.at_ _ _ hx24
        obtain rfl := hr26
        refine FWs.val rfl 32 rfl rfl (ptrAt A2 (((x' - k) - 1).toNat * 1)) _ (r_indexAddr Try.underlying39 Try.sizeOf3 rfl rfl (hsb.isSome (by omega)) (by omega) (by omega)) (.inr hS12) ?_
        refine FWs.val rfl 33 rfl rfl (Value.int .i64 x23) _ (r_loadG1 (i := 0) Try.isAgg3 hg27 rfl rfl hH11) (.inr hS12) ?_
        refine FWs.val rfl 34 rfl rfl (Value.bool (decide (x18 = x23))) _ (r_eql rfl rfl) (.inr hS12) ?_
        refine FWs.val rfl 35 rfl rfl (Value.bool (decide (x18 = x23))) _ (r_pick (t := true) rfl) (.inr hS12) ?_
        refine FWs.nil (hK4 _ _ ?_)
        clear hK4 K4
        refine FW.cond (decide (x18 = x23)) rfl (fun hc28 => ?_) (fun hc28 => ?_)
        · have hp29 : x18 = x23 := of_decide_eq_true hc28
          refine FW.skip (hK3 _ _ ?_)
          clear hK3 K3
          refine FW.block ?_
          refine FW.region rfl ?_
          refine FWl.val 36 rfl rfl (Value.int .i64 x') _ (r_move) ?_
          refine FWl.val 37 rfl rfl (Value.int .i64 (x' - 1)) _ (r_subI rfl rfl (by omega) (by omega)) ?_
          refine FWl.val 1 rfl rfl (Value.int .i64 (x' - 1)) _ (r_assign) ?_
          refine FWl.nil (inBlockF_norm (thenF_norm (?_)))
          refine ⟨_, ⟨x' - 1, ⟨rfl, rfl, rfl, rfl, trivial⟩, hL1_9, ⟨by omega, by omega⟩, by omega, hq.trans (slide_step (by omega) (by omega) (by assumption) (by assumption) (by assumption)), rfl⟩, ?_⟩
          omega
        · have hp30 : ¬ (x18 = x23) := of_decide_eq_false hc28
          refine FW.exit (thenF_exit (thenF_exit (inBlockF_hit (hK2 _ _ ?_))))
          clear hK2 K2 hK3 K3
          refine FW.seq_k fun K5 hK5 => ?_
          refine FW.region rfl ?_
          refine FWl.val 38 rfl rfl (Value.int .i64 x') _ (r_move) ?_
          refine FWl.val 6 rfl rfl (Value.int .i64 x') _ (r_assign) ?_
          refine FWl.nil (hK5 _ _ ?_)
          clear hK5 K5
          refine FW.ret (?_)
          refine ret_tmp (v := Value.int .i64 x') Try.results45 (.inl rfl) rfl ?_
          exact ⟨by rw [hq]; first | rw [slide_stop1 (by assumption)] | rw [slide_stop2 (by assumption)] | rw [slide_stop3 (by assumption) (by assumption) (by assumption)], hE_8⟩
      | false =>
        have hp31 : ¬ (0 < (x' - k)) := of_decide_eq_false hb16
        refine FWs.takeSkip rfl 16 rfl rfl hS12 ?_
        refine FWs.takeSkip rfl 17 rfl rfl hS12 ?_
        refine FWs.takeSkip rfl 18 rfl rfl hS12 ?_
        refine FWs.takeSkip rfl 19 rfl rfl hS12 ?_
        refine FWs.takeSkip rfl 20 rfl rfl hS12 ?_
        refine FWs.takeSkip rfl 21 rfl rfl hS12 ?_
        refine FWs.takeSkip rfl 22 rfl rfl hS12 ?_
        refine FWs.takeSkip rfl 23 rfl rfl hS12 ?_
        refine FWs.takeSkip rfl 24 rfl rfl hS12 ?_
        refine FWs.takeSkip rfl 25 rfl rfl hS12 ?_
        refine FWs.takeSkip rfl 26 rfl rfl hS12 ?_
        refine FWs.takeSkip rfl 27 rfl rfl hS12 ?_
        refine FWs.takeSkip rfl 28 rfl rfl hS12 ?_
        refine FWs.skip rfl 29 rfl rfl (.inr hS12) ?_
        refine FWs.skip rfl 30 rfl rfl (.inr hS12) ?_
        refine FWs.skip rfl 31 rfl rfl (.inr hS12) ?_
        refine FWs.skip rfl 32 rfl rfl (.inr hS12) ?_
        refine FWs.skip rfl 33 rfl rfl (.inr hS12) ?_
        refine FWs.skip rfl 34 rfl rfl (.inr hS12) ?_
        refine FWs.val rfl 35 rfl rfl (Value.bool false) _ (r_pick (t := false) rfl) (.inr hS12) ?_
        refine FWs.nil (hK4 _ _ ?_)
        clear hK4 K4
        refine FW.cond false rfl (fun h => nomatch h) (fun _ => ?_)
        refine FW.exit (thenF_exit (thenF_exit (inBlockF_hit (hK2 _ _ ?_))))
        clear hK2 K2 hK3 K3
        refine FW.seq_k fun K6 hK6 => ?_
        refine FW.region rfl ?_
        refine FWl.val 38 rfl rfl (Value.int .i64 x') _ (r_move) ?_
        refine FWl.val 6 rfl rfl (Value.int .i64 x') _ (r_assign) ?_
        refine FWl.nil (hK6 _ _ ?_)
        clear hK6 K6
        refine FW.ret (?_)
        refine ret_tmp (v := Value.int .i64 x') Try.results45 (.inl rfl) rfl ?_
        exact ⟨by rw [hq]; first | rw [slide_stop1 (by assumption)] | rw [slide_stop2 (by assumption)] | rw [slide_stop3 (by assumption) (by assumption) (by assumption)], hE_8⟩
    | false =>
      have hp32 : ¬ (0 < x') := of_decide_eq_false hb14
      refine FWs.takeSkip rfl 10 rfl rfl hS12 ?_
      refine FWs.skip rfl 11 rfl rfl (.inr hS12) ?_
      refine FWs.skip rfl 12 rfl rfl (.inr hS12) ?_
      refine FWs.skip rfl 13 rfl rfl (.inr hS12) ?_
      refine FWs.val rfl 14 rfl rfl (Value.bool false) _ (r_pick (t := false) rfl) (.inr hS12) ?_
      refine FWs.val rfl 15 rfl rfl (Value.bool false) _ (r_move) (.inr hS12) ?_
      refine FWs.takeSkip rfl 16 rfl rfl hS12 ?_
      refine FWs.takeSkip rfl 17 rfl rfl hS12 ?_
      refine FWs.takeSkip rfl 18 rfl rfl hS12 ?_
      refine FWs.takeSkip rfl 19 rfl rfl hS12 ?_
      refine FWs.takeSkip rfl 20 rfl rfl hS12 ?_
      refine FWs.takeSkip rfl 21 rfl rfl hS12 ?_
      refine FWs.takeSkip rfl 22 rfl rfl hS12 ?_
      refine FWs.takeSkip rfl 23 rfl rfl hS12 ?_
      refine FWs.takeSkip rfl 24 rfl rfl hS12 ?_
      refine FWs.takeSkip rfl 25 rfl rfl hS12 ?_
      refine FWs.takeSkip rfl 26 rfl rfl hS12 ?_
      refine FWs.takeSkip rfl 27 rfl rfl hS12 ?_
      refine FWs.takeSkip rfl 28 rfl rfl hS12 ?_
      refine FWs.skip rfl 29 rfl rfl (.inr hS12) ?_
      refine FWs.skip rfl 30 rfl rfl (.inr hS12) ?_
      refine FWs.skip rfl 31 rfl rfl (.inr hS12) ?_
      refine FWs.skip rfl 32 rfl rfl (.inr hS12) ?_
      refine FWs.skip rfl 33 rfl rfl (.inr hS12) ?_
      refine FWs.skip rfl 34 rfl rfl (.inr hS12) ?_
      refine FWs.val rfl 35 rfl rfl (Value.bool false) _ (r_pick (t := false) rfl) (.inr hS12) ?_
      refine FWs.nil (hK4 _ _ ?_)
      clear hK4 K4
      refine FW.cond false rfl (fun h => nomatch h) (fun _ => ?_)
      refine FW.exit (thenF_exit (thenF_exit (inBlockF_hit (hK2 _ _ ?_))))
      clear hK2 K2 hK3 K3
      refine FW.seq_k fun K7 hK7 => ?_
      refine FW.region rfl ?_
      refine FWl.val 38 rfl rfl (Value.int .i64 x') _ (r_move) ?_
      refine FWl.val 6 rfl rfl (Value.int .i64 x') _ (r_assign) ?_
      refine FWl.nil (hK7 _ _ ?_)
      clear hK7 K7
      refine FW.ret (?_)
      refine ret_tmp (v := Value.int .i64 x') Try.results45 (.inl rfl) rfl ?_
      exact ⟨by rw [hq]; first | rw [slide_stop1 (by assumption)] | rw [slide_stop2 (by assumption)] | rw [slide_stop3 (by assumption) (by assumption) (by assumption)], hE_8⟩

end Go.Proofs.Ytlofomkhiefbmaa
