/- Walks. -/
import Derived.Test.YtlofomkhiefbmaaJH
import Derived.Test.YtlofomkhiefbmaaJT
import Derived.Test.YtlofomkhiefbmaaJL
import Derived.Test.YtlofomkhiefbmaaM2
set_option maxRecDepth 10000
set_option linter.unusedVariables false
set_option linter.unusedSimpArgs false
namespace Go.Proofs.Ytlofomkhiefbmaa
open Go.RowKit
theorem Same_c {A1 A2 : Option Addr} {c1 c2 : Nat} {xs ys : List Line} {w : World} {C : Gh} (hH : Has w C) (h1 : Sl kLine C A1 c1 xs) (h2 : Sl kLine C A2 c2 ys) : Ret Try.prog 8 #[Value.slice A1 xs.length c1, Value.slice A2 ys.length c2] w fun v w' => v = Value.bool (decide (xs = ys)) ∧ Ext w.heap.size w C w' C := by
  refine Ret.of Try.func8 rfl Try.ntmps8 rfl ?_
  have hE := Ext.refl (B := w.heap.size) hH
  have bd_h1 := h1.bd
  have bd_h2 := h2.bd
  refine FW.seq_k fun K1 hK1 => ?_
  refine FW.region rfl ?_
  refine FWl.val 4 rfl rfl (Value.bool false) _ (r_assign) ?_
  refine FWl.nil (hK1 _ _ ?_)
  clear hK1 K1
  refine FW.seq_k fun K2 hK2 => ?_
  refine FW.seq_k fun K3 hK3 => ?_
  refine FW.region rfl ?_
  refine FWl.val 6 rfl rfl (Value.slice A1 xs.length c1) _ (r_move) ?_
  refine FWl.val 7 rfl rfl (Value.int .i64 ((xs.length : Nat) : Int)) _ (r_lenSl Try.underlying22 rfl) ?_
  refine FWl.val 8 rfl rfl (Value.slice A2 ys.length c2) _ (r_move) ?_
  refine FWl.val 9 rfl rfl (Value.int .i64 ((ys.length : Nat) : Int)) _ (r_lenSl Try.underlying22 rfl) ?_
  refine FWl.val 10 rfl rfl (Value.bool (decide (((xs.length : Nat) : Int) ≠ ((ys.length : Nat) : Int)))) _ (r_neq rfl rfl) ?_
  refine FWl.nil (hK3 _ _ ?_)
  clear hK3 K3
  refine FW.cond (decide (((xs.length : Nat) : Int) ≠ ((ys.length : Nat) : Int))) rfl (fun hc1 => ?_) (fun hc1 => ?_)
  · have hp2 : ((xs.length : Nat) : Int) ≠ ((ys.length : Nat) : Int) := of_decide_eq_true hc1
    refine FW.seq_k fun K4 hK4 => ?_
    refine FW.region rfl ?_
    refine FWl.val 4 rfl rfl (Value.bool false) _ (r_assign) ?_
    refine FWl.nil (hK4 _ _ ?_)
    clear hK4 K4
    refine FW.ret (thenF_ret (?_))
    refine ret_tmp (v := Value.bool false) Try.results8 (.inl rfl) rfl ?_
    exact ⟨congrArg Value.bool (by first | exact eq_len (by assumption) | exact eq_elem (by assumption) (by assumption) (by assumption) | exact eq_all hq (by assumption) (by assumption)), hE⟩
  · have hp3 : ¬ (((xs.length : Nat) : Int) ≠ ((ys.length : Nat) : Int)) := of_decide_eq_false hc1
    refine FW.skip (hK2 _ _ ?_)
    clear hK2 K2
    refine FW.seq_k fun K5 hK5 => ?_
    refine FW.seq_k fun K6 hK6 => ?_
    refine FW.region rfl ?_
    refine FWl.val 5 rfl rfl (Value.int .i64 0) _ (r_assign) ?_
    refine FWl.nil (hK6 _ _ ?_)
    clear hK6 K6
    refine FW.block ?_
    refine FW.loop_m (fun msr T w4 => ∃  (k : Nat), Holds T [(0, Value.slice A1 xs.length c1), (1, Value.slice A2 ys.length c2), (5, Value.int .i64 (k : Int)), (6, Value.slice A1 xs.length c1), (7, Value.int .i64 ((xs.length : Nat) : Int)), (8, Value.slice A2 ys.length c2), (9, Value.int .i64 ((ys.length : Nat) : Int)), (10, Value.bool (decide (((xs.length : Nat) : Int) ≠ ((ys.length : Nat) : Int))))] ∧ Ext (w.heap.size) w C w4 C ∧ (k ≤ xs.length) ∧ (xs.take k = ys.take k) ∧ msr = xs.length - k) (xs.length - 0) ?_ ?_
    · exact ⟨0, ⟨rfl, rfl, rfl, rfl, rfl, rfl, rfl, rfl, trivial⟩, Ext.refl hH, Nat.zero_le _, rfl, rfl⟩
    · rintro msr T w4 ⟨k, hT, hL1, hk, hq, rfl⟩
      refine FW.frame hT fun B1 => ?_
      have hE_6 := hE.step hL1
      have hH7 := hL1.has
      refine FW.seq_k fun K7 hK7 => ?_
      refine FW.seq_k fun K8 hK8 => ?_
      refine FW.region rfl ?_
      refine FWl.val 11 rfl rfl (Value.int .i64 (k : Int)) _ (r_move) ?_
      refine FWl.val 12 rfl rfl (Value.slice A1 xs.length c1) _ (r_move) ?_
      refine FWl.val 13 rfl rfl (Value.int .i64 ((xs.length : Nat) : Int)) _ (r_lenSl Try.underlying22 rfl) ?_
      refine FWl.val 14 rfl rfl (Value.bool (decide ((k : Int) < ((xs.length : Nat) : Int)))) _ (r_lss rfl rfl) ?_
      refine FWl.nil (hK8 _ _ ?_)
      clear hK8 K8
      refine FW.cond (decide ((k : Int) < ((xs.length : Nat) : Int))) rfl (fun hc8 => ?_) (fun hc8 => ?_)
      · have hp9 : (k : Int) < ((xs.length : Nat) : Int) := of_decide_eq_true hc8
        refine FW.skip (hK7 _ _ ?_)
        clear hK7 K7
        refine FW.seq_k fun K9 hK9 => ?_
        refine FW.block ?_
        refine FW.seq_k fun K10 hK10 => ?_
        refine FW.regionDraw mixed (SS C (fun _ => True) w4.drew) [] [(0, true), (1, true), (2, true), (3, true), (4, true), (5, false), (6, false), (7, false), (8, false)] rfl (by kernel_rfl) ?_
        have e11 : Ext w4.heap.size w4 C w4.drew C := (Ext.refl hH7).drew
        generalize w4.drew = w10 at *
        have hE_12 := hE_6.step e11
        have hL1_13 := hL1.step e11
        have hH14 := e11.has
        have hS15 : SS C (fun _ => True) w10 w10 := SS.refl hH14
        have hle16 := Gle.refl C
        refine FWs.take rfl 17 rfl rfl (Value.slice A1 xs.length c1) hS15 (fun _ _ => r_move) ?_
        refine FWs.take rfl 18 rfl rfl (Value.int .i64 (k : Int)) hS15 (fun _ _ => r_move) ?_
        obtain ⟨x17, hx18⟩ := get_some (xs := xs) (j := k) (by omega)
        obtain ⟨cs19, hr20, hg21⟩ := h1.at_ _ _ hx18
        obtain rfl := hr20
        refine FWs.take rfl 19 rfl rfl (ptrAt A1 (((k : Int)).toNat * 2)) hS15 (fun _ _ => r_indexAddr Try.underlying22 Try.sizeOf43 rfl rfl (h1.isSome (by omega)) (by omega) (by omega)) ?_
        refine FWs.take rfl 20 rfl rfl (Value.agg #[Value.string x17.text, Value.bool x17.bare]) hS15 (fun _ hS' => r_loadGN Try.isAgg43 Try.sizeOf43 hg21 rfl hS'.has) ?_
        refine FWs.take rfl 21 rfl rfl (Value.slice A2 ys.length c2) hS15 (fun _ _ => r_move) ?_
        refine FWs.val rfl 22 rfl rfl (Value.int .i64 (k : Int)) _ (r_move) (.inr hS15) ?_
        obtain ⟨x22, hx23⟩ := get_some (xs := ys) (j := k) (by omega)
        obtain ⟨cs24, hr25, hg26⟩ := h2.at_ _ _ hx23
        obtain rfl := hr25
        refine FWs.val rfl 23 rfl rfl (ptrAt A2 (((k : Int)).toNat * 2)) _ (r_indexAddr Try.underlying22 Try.sizeOf43 rfl rfl (h2.isSome (by omega)) (by omega) (by omega)) (.inr hS15) ?_
        refine FWs.val rfl 24 rfl rfl (Value.agg #[Value.string x22.text, Value.bool x22.bare]) _ (r_loadGN Try.isAgg43 Try.sizeOf43 hg26 rfl hH14) (.inr hS15) ?_
        refine FWs.val rfl 25 rfl rfl (Value.bool (!decide (x17 = x22))) _ (r_neqAgg Try.eqGuardType43 (fun _ => eqT43 _ _ _ _ _) rfl rfl) (.inr hS15) ?_
        refine FWs.nil (hK10 _ _ ?_)
        clear hK10 K10
        refine FW.cond (!decide (x17 = x22)) rfl (fun hc27 => ?_) (fun hc27 => ?_)
        · have hp28 : ¬ (x17 = x22) := by simpa using hc27
          refine FW.seq_k fun K11 hK11 => ?_
          refine FW.region rfl ?_
          refine FWl.val 4 rfl rfl (Value.bool false) _ (r_assign) ?_
          refine FWl.nil (hK11 _ _ ?_)
          clear hK11 K11
          refine FW.ret (inBlockF_ret (thenF_ret (thenF_ret (inBlockF_ret (thenF_ret (?_))))))
          refine ret_tmp (v := Value.bool false) Try.results8 (.inl rfl) rfl ?_
          exact ⟨congrArg Value.bool (by first | exact eq_len (by assumption) | exact eq_elem (by assumption) (by assumption) (by assumption) | exact eq_all hq (by assumption) (by assumption)), hE_12⟩
        · have hp29 : x17 = x22 := by simpa using hc27
          refine FW.skip (hK9 _ _ ?_)
          clear hK9 K9
          refine FW.region rfl ?_
          refine FWl.val 15 rfl rfl (Value.int .i64 (k : Int)) _ (r_move) ?_
          refine FWl.val 16 rfl rfl (Value.int .i64 ((k : Int) + 1)) _ (r_addI rfl rfl (by omega) (by omega)) ?_
          refine FWl.val 5 rfl rfl (Value.int .i64 ((k : Int) + 1)) _ (r_assign) ?_
          refine FWl.nil (thenF_norm (?_))
          refine ⟨_, ⟨k + 1, ⟨rfl, rfl, rfl, rfl, rfl, rfl, rfl, rfl, trivial⟩, hL1_13, by omega, take_eq_step hq (by assumption) (by assumption) (by assumption), rfl⟩, ?_⟩
          omega
      · have hp30 : ¬ ((k : Int) < ((xs.length : Nat) : Int)) := of_decide_eq_false hc8
        refine FW.exit (thenF_exit (thenF_exit (inBlockF_hit (hK5 _ _ ?_))))
        clear hK5 K5 hK7 K7
        refine FW.seq_k fun K12 hK12 => ?_
        refine FW.region rfl ?_
        refine FWl.val 4 rfl rfl (Value.bool true) _ (r_assign) ?_
        refine FWl.nil (hK12 _ _ ?_)
        clear hK12 K12
        refine FW.ret (?_)
        refine ret_tmp (v := Value.bool true) Try.results8 (.inl rfl) rfl ?_
        exact ⟨congrArg Value.bool (by first | exact eq_len (by assumption) | exact eq_elem (by assumption) (by assumption) (by assumption) | exact eq_all hq (by assumption) (by assumption)), hE_6⟩

theorem refRight_c {A : Option Addr} {c : Nat} {l : List Line} {w : World} {C : Gh} (hH : Has w C) (h : Sl kLine C A c l) (ht : ∀ x ∈ l, x.text.size ≤ 200) (hl : l.length ≤ 60) : Ret Try.prog 14 #[Value.slice A l.length c] w fun v w' => ∃ (C' : Gh) (r : Bool), v = Value.bool r ∧ Ext w.heap.size w C w' C' := by
  refine Ret.of Try.func14 rfl Try.ntmps14 rfl ?_
  have hE := Ext.refl (B := w.heap.size) hH
  have bd_h := h.bd
  refine FW.seq_k fun K1 hK1 => ?_
  refine FW.region rfl ?_
  refine FWl.val 2 rfl rfl (Value.bool false) _ (r_assign) ?_
  refine FWl.nil (hK1 _ _ ?_)
  clear hK1 K1
  refine FW.seq_k fun K2 hK2 => ?_
  refine FW.seq_k fun K3 hK3 => ?_
  refine FW.region rfl ?_
  refine FWl.val 3 rfl rfl (Value.int .i64 0) _ (r_assign) ?_
  refine FWl.nil (hK3 _ _ ?_)
  clear hK3 K3
  refine FW.block ?_
  refine FW.loop_m (fun msr T w1 => ∃ (C2 : Gh) (i : Nat), Holds T [(0, Value.slice A l.length c), (3, Value.int .i64 (i : Int))] ∧ Ext (w.heap.size) w C w1 C2 ∧ (i ≤ l.length) ∧ msr = l.length - i) (l.length - 0) ?_ ?_
  · exact ⟨C, 0, ⟨rfl, rfl, trivial⟩, Ext.refl hH, Nat.zero_le _, rfl⟩
  · rintro msr T w1 ⟨C2, i, hT, hL1, hi, rfl⟩
    refine FW.frame hT fun B1 => ?_
    have hE_3 := hE.step hL1
    have h_4 := h.mono hL1.le
    have hH5 := hL1.has
    refine FW.seq_k fun K4 hK4 => ?_
    refine FW.seq_k fun K5 hK5 => ?_
    refine FW.region rfl ?_
    refine FWl.val 5 rfl rfl (Value.int .i64 (i : Int)) _ (r_move) ?_
    refine FWl.val 6 rfl rfl (Value.slice A l.length c) _ (r_move) ?_
    refine FWl.val 7 rfl rfl (Value.int .i64 ((l.length : Nat) : Int)) _ (r_lenSl Try.underlying22 rfl) ?_
    refine FWl.val 8 rfl rfl (Value.bool (decide ((i : Int) < ((l.length : Nat) : Int)))) _ (r_lss rfl rfl) ?_
    refine FWl.nil (hK5 _ _ ?_)
    clear hK5 K5
    refine FW.cond (decide ((i : Int) < ((l.length : Nat) : Int))) rfl (fun hc6 => ?_) (fun hc6 => ?_)
    · have hp7 : (i : Int) < ((l.length : Nat) : Int) := of_decide_eq_true hc6
      refine FW.skip (hK4 _ _ ?_)
      clear hK4 K4
      refine FW.seq_k fun K6 hK6 => ?_
      refine FW.block ?_
      refine FW.seq_k fun K7 hK7 => ?_
      refine FW.seq_k fun K8 hK8 => ?_
      refine FW.region rfl ?_
      refine FWl.val 4 rfl rfl (Value.int .i64 0) _ (r_assign) ?_
      refine FWl.nil (hK8 _ _ ?_)
      clear hK8 K8
      refine FW.block ?_
      refine FW.loop_m (fun msr T w8 => ∃ (C9 : Gh) (k : Nat), Holds T [(0, Value.slice A l.length c), (3, Value.int .i64 (i : Int)), (4, Value.int .i64 (k : Int)), (5, Value.int .i64 (i : Int)), (6, Value.slice A l.length c), (7, Value.int .i64 ((l.length : Nat) : Int)), (8, Value.bool (decide ((i : Int) < ((l.length : Nat) : Int))))] ∧ Ext (w1.heap.size) w1 C2 w8 C9 ∧ (k ≤ 1000000000000000) ∧ msr = 1000000000000000 - k) (1000000000000000 - 0) ?_ ?_
      · exact ⟨C2, 0, ⟨rfl, rfl, rfl, rfl, rfl, rfl, rfl, trivial⟩, Ext.refl hH5, by omega, rfl⟩
      · rintro msr T w8 ⟨C9, k, hT, hL2, hkb, rfl⟩
        refine FW.frame hT fun B2 => ?_
        have hE_10 := hE_3.step hL2
        have hL1_11 := hL1.step hL2
        have h_12 := h_4.mono hL2.le
        have hH13 := hL2.has
        refine FW.seq_k fun K9 hK9 => ?_
        refine FW.seq_k fun K10 hK10 => ?_
        refine FW.region rfl ?_
        refine FWl.val 11 rfl rfl (Value.int .i64 (k : Int)) _ (r_move) ?_
        refine FWl.val 12 rfl rfl (Value.slice A l.length c) _ (r_move) ?_
        refine FWl.val 13 rfl rfl (Value.int .i64 (i : Int)) _ (r_move) ?_
        obtain ⟨x14, hx15⟩ := get_some (xs := l) (j := i) (by omega)
        obtain ⟨cs16, hr17, hg18⟩ := h_12.at_ _ _ hx15
        obtain rfl := hr17
        have hbt := ht _ (List.mem_of_getElem? hx15)
        refine FWl.val 14 rfl rfl (ptrAt A (((i : Int)).toNat * 2)) _ (r_indexAddr Try.underlying22 Try.sizeOf43 rfl rfl (h_12.isSome (by omega)) (by omega) (by omega)) ?_
        refine FWl.val 15 rfl rfl (ptrAt A (((i : Int)).toNat * 2)) _ (r_fieldAddrAt Try.underlying43 rfl Try.sizeOf9 rfl rfl rfl (h_12.isSome (by omega)) rfl) ?_
        refine FWl.val 16 rfl rfl (Value.string x14.text) _ (r_loadG1 (i := 0) Try.isAgg9 hg18 rfl rfl hH13) ?_
        refine FWl.val 17 rfl rfl (Value.int .i64 ((x14.text.size : Nat) : Int)) _ (r_lenStr Try.underlying9 rfl) ?_
        refine FWl.val 18 rfl rfl (Value.bool (decide ((k : Int) < ((x14.text.size : Nat) : Int)))) _ (r_lss rfl rfl) ?_
        refine FWl.nil (hK10 _ _ ?_)
        clear hK10 K10
        refine FW.cond (decide ((k : Int) < ((x14.text.size : Nat) : Int))) rfl (fun hc19 => ?_) (fun hc19 => ?_)
        · have hp20 : (k : Int) < ((x14.text.size : Nat) : Int) := of_decide_eq_true hc19
          refine FW.skip (hK9 _ _ ?_)
          clear hK9 K9
          refine FW.seq_k fun K11 hK11 => ?_
          refine FW.block ?_
          refine FW.seq_k fun K12 hK12 => ?_
          refine FW.region rfl ?_
          refine FWl.val 21 rfl rfl (Value.slice A l.length c) _ (r_move) ?_
          refine FWl.val 22 rfl rfl (Value.int .i64 (i : Int)) _ (r_move) ?_
          refine FWl.val 23 rfl rfl (ptrAt A (((i : Int)).toNat * 2)) _ (r_indexAddr Try.underlying22 Try.sizeOf43 rfl rfl (h_12.isSome (by omega)) (by omega) (by omega)) ?_
          refine FWl.val 24 rfl rfl (ptrAt A (((i : Int)).toNat * 2)) _ (r_fieldAddrAt Try.underlying43 rfl Try.sizeOf9 rfl rfl rfl (h_12.isSome (by omega)) rfl) ?_
          refine FWl.val 25 rfl rfl (Value.string x14.text) _ (r_loadG1 (i := 0) Try.isAgg9 hg18 rfl rfl hH13) ?_
          refine FWl.val 26 rfl rfl (Value.int .i64 (k : Int)) _ (r_move) ?_
          obtain ⟨by21, hby22⟩ : ∃ b, x14.text[((k : Int)).toNat]? = some b := ⟨_, bt_lt _ _ (by omega)⟩
          refine FWl.val 27 rfl rfl (Value.int .u8 (by21.toNat : Int)) _ (r_indexStr Try.underlying9 rfl rfl (by omega) hby22) ?_
          refine FWl.val 28 rfl rfl (Value.bool (decide ((by21.toNat : Int) = 10))) _ (r_eql rfl rfl) ?_
          refine FWl.nil (hK12 _ _ ?_)
          clear hK12 K12
          refine FW.cond (decide ((by21.toNat : Int) = 10)) rfl (fun hc23 => ?_) (fun hc23 => ?_)
          · have hp24 : (by21.toNat : Int) = 10 := of_decide_eq_true hc23
            refine FW.seq_k fun K13 hK13 => ?_
            refine FW.region rfl ?_
            refine FWl.val 2 rfl rfl (Value.bool false) _ (r_assign) ?_
            refine FWl.nil (hK13 _ _ ?_)
            clear hK13 K13
            refine FW.ret (inBlockF_ret (thenF_ret (thenF_ret (inBlockF_ret (thenF_ret (inBlockF_ret (thenF_ret (thenF_ret (inBlockF_ret (thenF_ret (?_)))))))))))
            refine ret_tmp (v := Value.bool false) Try.results14 (.inl rfl) rfl ?_
            exact ⟨C9, _, rfl, hE_10⟩
          · have hp25 : ¬ ((by21.toNat : Int) = 10) := of_decide_eq_false hc23
            refine FW.skip (hK11 _ _ ?_)
            clear hK11 K11
            refine FW.region rfl ?_
            refine FWl.val 19 rfl rfl (Value.int .i64 (k : Int)) _ (r_move) ?_
            refine FWl.val 20 rfl rfl (Value.int .i64 ((k : Int) + 1)) _ (r_addI rfl rfl (by omega) (by omega)) ?_
            refine FWl.val 4 rfl rfl (Value.int .i64 ((k : Int) + 1)) _ (r_assign) ?_
            refine FWl.nil (thenF_norm (?_))
            refine ⟨_, ⟨C9, k + 1, ⟨rfl, rfl, rfl, rfl, rfl, rfl, rfl, trivial⟩, hL2, by omega, rfl⟩, ?_⟩
            omega
        · have hp26 : ¬ ((k : Int) < ((x14.text.size : Nat) : Int)) := of_decide_eq_false hc19
          refine FW.exit (thenF_exit (thenF_exit (inBlockF_hit (hK7 _ _ ?_))))
          clear hK7 K7 hK9 K9
          refine FW.seq_k fun K14 hK14 => ?_
          refine FW.region rfl ?_
          refine FWl.val 29 rfl rfl (Value.slice A l.length c) _ (r_move) ?_
          refine FWl.val 30 rfl rfl (Value.int .i64 (i : Int)) _ (r_move) ?_
          refine FWl.val 31 rfl rfl (ptrAt A (((i : Int)).toNat * 2)) _ (r_indexAddr Try.underlying22 Try.sizeOf43 rfl rfl (h_12.isSome (by omega)) (by omega) (by omega)) ?_
          refine FWl.val 32 rfl rfl (ptrAt A (((i : Int)).toNat * 2 + 1)) _ (r_fieldAddrAt Try.underlying43 rfl Try.sizeOf4 rfl rfl rfl (h_12.isSome (by omega)) rfl) ?_
          refine FWl.val 33 rfl rfl (Value.bool x14.bare) _ (r_loadG1 (i := 1) Try.isAgg4 hg18 rfl rfl hH13) ?_
          refine FWl.val 34 rfl rfl (Value.bool x14.bare) _ (r_move) ?_
          cases hb27 : x14.bare with
          | true =>
            refine FWl.val 35 rfl rfl (Value.int .i64 (i : Int)) _ (r_move) ?_
            refine FWl.val 36 rfl rfl (Value.int .i64 ((i : Int) + 1)) _ (r_addI rfl rfl (by omega) (by omega)) ?_
            refine FWl.val 37 rfl rfl (Value.slice A l.length c) _ (r_move) ?_
            refine FWl.val 38 rfl rfl (Value.int .i64 ((l.length : Nat) : Int)) _ (r_lenSl Try.underlying22 rfl) ?_
            refine FWl.val 39 rfl rfl (Value.bool (decide (((i : Int) + 1) < ((l.length : Nat) : Int)))) _ (r_lss rfl rfl) ?_
            refine FWl.val 40 rfl rfl (Value.bool (decide (((i : Int) + 1) < ((l.length : Nat) : Int)))) _ (r_move) ?_
            cases hb29 : (decide (((i : Int) + 1) < ((l.length : Nat) : Int))) with
            | true =>
              have hp30 : ((i : Int) + 1) < ((l.length : Nat) : Int) := of_decide_eq_true hb29
              refine FWl.skip 41 rfl rfl ?_
              refine FWl.skip 42 rfl rfl ?_
              refine FWl.skip 43 rfl rfl ?_
              refine FWl.skip 44 rfl rfl ?_
              refine FWl.skip 45 rfl rfl ?_
              refine FWl.skip 46 rfl rfl ?_
              refine FWl.skip 47 rfl rfl ?_
              refine FWl.val 48 rfl rfl (Value.bool true) _ (r_pick (t := true) rfl) ?_
              refine FWl.val 49 rfl rfl (Value.bool true) _ (r_pick (t := true) rfl) ?_
              refine FWl.nil (hK14 _ _ ?_)
              clear hK14 K14
              refine FW.cond true rfl (fun _ => ?_) (fun h => nomatch h)
              refine FW.seq_k fun K15 hK15 => ?_
              refine FW.region rfl ?_
              refine FWl.val 2 rfl rfl (Value.bool false) _ (r_assign) ?_
              refine FWl.nil (hK15 _ _ ?_)
              clear hK15 K15
              refine FW.ret (inBlockF_ret (thenF_ret (thenF_ret (inBlockF_ret (thenF_ret (?_))))))
              refine ret_tmp (v := Value.bool false) Try.results14 (.inl rfl) rfl ?_
              exact ⟨C9, _, rfl, hE_10⟩
            | false =>
              have hp31 : ¬ (((i : Int) + 1) < ((l.length : Nat) : Int)) := of_decide_eq_false hb29
              refine FWl.val 41 rfl rfl (Value.slice A l.length c) _ (r_move) ?_
              refine FWl.val 42 rfl rfl (Value.int .i64 (i : Int)) _ (r_move) ?_
              refine FWl.val 43 rfl rfl (ptrAt A (((i : Int)).toNat * 2)) _ (r_indexAddr Try.underlying22 Try.sizeOf43 rfl rfl (h_12.isSome (by omega)) (by omega) (by omega)) ?_
              refine FWl.val 44 rfl rfl (ptrAt A (((i : Int)).toNat * 2)) _ (r_fieldAddrAt Try.underlying43 rfl Try.sizeOf9 rfl rfl rfl (h_12.isSome (by omega)) rfl) ?_
              refine FWl.val 45 rfl rfl (Value.string x14.text) _ (r_loadG1 (i := 0) Try.isAgg9 hg18 rfl rfl hH13) ?_
              refine FWl.val 46 rfl rfl (Value.int .i64 ((x14.text.size : Nat) : Int)) _ (r_lenStr Try.underlying9 rfl) ?_
              refine FWl.val 47 rfl rfl (Value.bool (decide (((x14.text.size : Nat) : Int) = 0))) _ (r_eql rfl rfl) ?_
              refine FWl.val 48 rfl rfl (Value.bool (decide (((x14.text.size : Nat) : Int) = 0))) _ (r_pick (t := false) rfl) ?_
              refine FWl.val 49 rfl rfl (Value.bool (decide (((x14.text.size : Nat) : Int) = 0))) _ (r_pick (t := true) rfl) ?_
              refine FWl.nil (hK14 _ _ ?_)
              clear hK14 K14
              refine FW.cond (decide (((x14.text.size : Nat) : Int) = 0)) rfl (fun hc32 => ?_) (fun hc32 => ?_)
              · have hp33 : ((x14.text.size : Nat) : Int) = 0 := of_decide_eq_true hc32
                refine FW.seq_k fun K16 hK16 => ?_
                refine FW.region rfl ?_
                refine FWl.val 2 rfl rfl (Value.bool false) _ (r_assign) ?_
                refine FWl.nil (hK16 _ _ ?_)
                clear hK16 K16
                refine FW.ret (inBlockF_ret (thenF_ret (thenF_ret (inBlockF_ret (thenF_ret (?_))))))
                refine ret_tmp (v := Value.bool false) Try.results14 (.inl rfl) rfl ?_
                exact ⟨C9, _, rfl, hE_10⟩
              · have hp34 : ¬ (((x14.text.size : Nat) : Int) = 0) := of_decide_eq_false hc32
                refine FW.skip (hK6 _ _ ?_)
                clear hK6 K6
                refine FW.region rfl ?_
                refine FWl.val 9 rfl rfl (Value.int .i64 (i : Int)) _ (r_move) ?_
                refine FWl.val 10 rfl rfl (Value.int .i64 ((i : Int) + 1)) _ (r_addI rfl rfl (by omega) (by omega)) ?_
                refine FWl.val 3 rfl rfl (Value.int .i64 ((i : Int) + 1)) _ (r_assign) ?_
                refine FWl.nil (thenF_norm (?_))
                refine ⟨_, ⟨C9, i + 1, ⟨rfl, rfl, trivial⟩, hL1_11, by omega, rfl⟩, ?_⟩
                omega
          | false =>
            refine FWl.skip 35 rfl rfl ?_
            refine FWl.skip 36 rfl rfl ?_
            refine FWl.skip 37 rfl rfl ?_
            refine FWl.skip 38 rfl rfl ?_
            refine FWl.skip 39 rfl rfl ?_
            refine FWl.skip 40 rfl rfl ?_
            refine FWl.skip 41 rfl rfl ?_
            refine FWl.skip 42 rfl rfl ?_
            refine FWl.skip 43 rfl rfl ?_
            refine FWl.skip 44 rfl rfl ?_
            refine FWl.skip 45 rfl rfl ?_
            refine FWl.skip 46 rfl rfl ?_
            refine FWl.skip 47 rfl rfl ?_
            refine FWl.skip 48 rfl rfl ?_
            refine FWl.val 49 rfl rfl (Value.bool false) _ (r_pick (t := false) rfl) ?_
            refine FWl.nil (hK14 _ _ ?_)
            clear hK14 K14
            refine FW.cond false rfl (fun h => nomatch h) (fun _ => ?_)
            refine FW.skip (hK6 _ _ ?_)
            clear hK6 K6
            refine FW.region rfl ?_
            refine FWl.val 9 rfl rfl (Value.int .i64 (i : Int)) _ (r_move) ?_
            refine FWl.val 10 rfl rfl (Value.int .i64 ((i : Int) + 1)) _ (r_addI rfl rfl (by omega) (by omega)) ?_
            refine FWl.val 3 rfl rfl (Value.int .i64 ((i : Int) + 1)) _ (r_assign) ?_
            refine FWl.nil (thenF_norm (?_))
            refine ⟨_, ⟨C9, i + 1, ⟨rfl, rfl, trivial⟩, hL1_11, by omega, rfl⟩, ?_⟩
            omega
    · have hp36 : ¬ ((i : Int) < ((l.length : Nat) : Int)) := of_decide_eq_false hc6
      refine FW.exit (thenF_exit (thenF_exit (inBlockF_hit (hK2 _ _ ?_))))
      clear hK2 K2 hK4 K4
      refine FW.seq_k fun K17 hK17 => ?_
      refine FW.region rfl ?_
      refine FWl.val 2 rfl rfl (Value.bool true) _ (r_assign) ?_
      refine FWl.nil (hK17 _ _ ?_)
      clear hK17 K17
      refine FW.ret (?_)
      refine ret_tmp (v := Value.bool true) Try.results14 (.inl rfl) rfl ?_
      exact ⟨C2, _, rfl, hE_3⟩

theorem right_c {A : Option Addr} {c : Nat} {l : List Line} {w : World} {C : Gh} (hH : Has w C) (h : Sl kLine C A c l) : Ret Try.prog 4 #[Value.slice A l.length c] w fun v w' => ∃ (C' : Gh) (r : Bool), v = Value.tuple #[Value.slice A ((l.take 60).length) c, Value.bool r] ∧ Ext w.heap.size w C w' C' ∧ Sl kLine C' A c (l.take 60) := by
  refine Ret.of Try.func4 rfl Try.ntmps4 rfl ?_
  have hE := Ext.refl (B := w.heap.size) hH
  have bd_h := h.bd
  have hl60 : (l.take 60).length ≤ 60 := by rw [List.length_take]; omega
  refine FW.seq_k fun K1 hK1 => ?_
  refine FW.region rfl ?_
  refine FWl.val 2 rfl rfl (Value.slice none 0 0) _ (r_assign) ?_
  refine FWl.val 3 rfl rfl (Value.bool false) _ (r_assign) ?_
  refine FWl.nil (hK1 _ _ ?_)
  clear hK1 K1
  refine FW.seq_k fun K2 hK2 => ?_
  refine FW.region rfl ?_
  refine FWl.val 5 rfl rfl (Value.slice A l.length c) _ (r_move) ?_
  refine FWl.val 6 rfl rfl (Value.slice A l.length c) _ (r_move) ?_
  refine FWl.val 7 rfl rfl (Value.int .i64 ((l.length : Nat) : Int)) _ (r_lenSl Try.underlying22 rfl) ?_
  refine FWl.val 8 rfl rfl (Value.int .i64 (min ((l.length : Nat) : Int) 60)) _ (r_min2 rfl rfl) ?_
  have hs1 := h.take 60 (c' := c) (by have := h.le; rw [List.length_take]; omega)
  refine FWl.val 9 rfl rfl (Value.slice A ((l.take 60).length) c) _ (r_sliceTake (xs := l) (n := 60) Try.underlying22 Try.sizeOf43 rfl rfl (by rw [List.length_take]; omega) h.le) ?_
  refine FWl.val 0 rfl rfl (Value.slice A ((l.take 60).length) c) _ (r_assign) ?_
  refine FWl.nil (hK2 _ _ ?_)
  clear hK2 K2
  refine FW.seq_k fun K3 hK3 => ?_
  refine FW.seq_k fun K4 hK4 => ?_
  refine FW.region rfl ?_
  refine FWl.val 4 rfl rfl (Value.int .i64 0) _ (r_assign) ?_
  refine FWl.nil (hK4 _ _ ?_)
  clear hK4 K4
  refine FW.block ?_
  refine FW.loop_m (fun msr T w2 => ∃ (C3 : Gh) (k : Nat), Holds T [(0, Value.slice A ((l.take 60).length) c), (4, Value.int .i64 (k : Int)), (5, Value.slice A l.length c), (6, Value.slice A l.length c), (7, Value.int .i64 ((l.length : Nat) : Int)), (8, Value.int .i64 (min ((l.length : Nat) : Int) 60)), (9, Value.slice A ((l.take 60).length) c)] ∧ Ext (w.heap.size) w C w2 C3 ∧ (k ≤ (l.take 60).length) ∧ (∀ x ∈ (l.take 60).take k, x.text.size ≤ 200) ∧ msr = (l.take 60).length - k) ((l.take 60).length - 0) ?_ ?_
  · exact ⟨C, 0, ⟨rfl, rfl, rfl, rfl, rfl, rfl, rfl, trivial⟩, Ext.refl hH, Nat.zero_le _, by simp, rfl⟩
  · rintro msr T w2 ⟨C3, k, hT, hL1, hk, hall, rfl⟩
    refine FW.frame hT fun B1 => ?_
    have hE_4 := hE.step hL1
    have hs1_6 := hs1.mono hL1.le
    have hH7 := hL1.has
    refine FW.seq_k fun K5 hK5 => ?_
    refine FW.seq_k fun K6 hK6 => ?_
    refine FW.region rfl ?_
    refine FWl.val 10 rfl rfl (Value.int .i64 (k : Int)) _ (r_move) ?_
    refine FWl.val 11 rfl rfl (Value.slice A ((l.take 60).length) c) _ (r_move) ?_
    refine FWl.val 12 rfl rfl (Value.int .i64 (((l.take 60).length : Nat) : Int)) _ (r_lenSl Try.underlying22 rfl) ?_
    refine FWl.val 13 rfl rfl (Value.bool (decide ((k : Int) < (((l.take 60).length : Nat) : Int)))) _ (r_lss rfl rfl) ?_
    refine FWl.nil (hK6 _ _ ?_)
    clear hK6 K6
    refine FW.cond (decide ((k : Int) < (((l.take 60).length : Nat) : Int))) rfl (fun hc8 => ?_) (fun hc8 => ?_)
    · have hp9 : (k : Int) < (((l.take 60).length : Nat) : Int) := of_decide_eq_true hc8
      refine FW.skip (hK5 _ _ ?_)
      clear hK5 K5
      refine FW.seq_k fun K7 hK7 => ?_
      refine FW.block ?_
      refine FW.seq_k fun K8 hK8 => ?_
      refine FW.region rfl ?_
      refine FWl.val 16 rfl rfl (Value.slice A ((l.take 60).length) c) _ (r_move) ?_
      refine FWl.val 17 rfl rfl (Value.int .i64 (k : Int)) _ (r_move) ?_
      obtain ⟨x10, hx11⟩ := get_some (xs := (l.take 60)) (j := k) (by omega)
      obtain ⟨cs12, hr13, hg14⟩ := hs1_6.at_ _ _ hx11
      obtain rfl := hr13
      refine FWl.val 18 rfl rfl (ptrAt A (((k : Int)).toNat * 2)) _ (r_indexAddr Try.underlying22 Try.sizeOf43 rfl rfl (hs1_6.isSome (by omega)) (by omega) (by omega)) ?_
      refine FWl.val 19 rfl rfl (ptrAt A (((k : Int)).toNat * 2)) _ (r_fieldAddrAt Try.underlying43 rfl Try.sizeOf9 rfl rfl rfl (hs1_6.isSome (by omega)) rfl) ?_
      refine FWl.val 20 rfl rfl (Value.string x10.text) _ (r_loadG1 (i := 0) Try.isAgg9 hg14 rfl rfl hH7) ?_
      refine FWl.val 21 rfl rfl (Value.int .i64 ((x10.text.size : Nat) : Int)) _ (r_lenStr Try.underlying9 rfl) ?_
      refine FWl.val 22 rfl rfl (Value.bool (decide (200 < ((x10.text.size : Nat) : Int)))) _ (r_gtr rfl rfl) ?_
      refine FWl.nil (hK8 _ _ ?_)
      clear hK8 K8
      refine FW.cond (decide (200 < ((x10.text.size : Nat) : Int))) rfl (fun hc15 => ?_) (fun hc15 => ?_)
      · have hp16 : 200 < ((x10.text.size : Nat) : Int) := of_decide_eq_true hc15
        refine FW.seq_k fun K9 hK9 => ?_
        refine FW.region rfl ?_
        refine FWl.val 23 rfl rfl (Value.slice A ((l.take 60).length) c) _ (r_move) ?_
        refine FWl.val 2 rfl rfl (Value.slice A ((l.take 60).length) c) _ (r_assign) ?_
        refine FWl.val 3 rfl rfl (Value.bool false) _ (r_assign) ?_
        refine FWl.nil (hK9 _ _ ?_)
        clear hK9 K9
        refine FW.ret (inBlockF_ret (thenF_ret (thenF_ret (inBlockF_ret (thenF_ret (?_))))))
        refine ret_tmp2 (v := Value.slice A ((l.take 60).length) c) (v' := Value.bool false) Try.results4 (.inl rfl) rfl rfl ?_
        exact ⟨C3, _, rfl, hE_4, hs1_6⟩
      · have hp17 : ¬ (200 < ((x10.text.size : Nat) : Int)) := of_decide_eq_false hc15
        refine FW.skip (hK7 _ _ ?_)
        clear hK7 K7
        refine FW.region rfl ?_
        refine FWl.val 14 rfl rfl (Value.int .i64 (k : Int)) _ (r_move) ?_
        refine FWl.val 15 rfl rfl (Value.int .i64 ((k : Int) + 1)) _ (r_addI rfl rfl (by omega) (by omega)) ?_
        refine FWl.val 4 rfl rfl (Value.int .i64 ((k : Int) + 1)) _ (r_assign) ?_
        refine FWl.nil (thenF_norm (?_))
        refine ⟨_, ⟨C3, k + 1, ⟨rfl, rfl, rfl, rfl, rfl, rfl, rfl, trivial⟩, hL1, by omega, mem_take_succ (by assumption) hall (by omega), rfl⟩, ?_⟩
        omega
    · have hp18 : ¬ ((k : Int) < (((l.take 60).length : Nat) : Int)) := of_decide_eq_false hc8
      refine FW.exit (thenF_exit (thenF_exit (inBlockF_hit (hK3 _ _ ?_))))
      clear hK3 K3 hK5 K5
      refine FW.seq_k fun K10 hK10 => ?_
      refine FW.region rfl ?_
      refine FWl.val 24 rfl rfl (Value.slice A ((l.take 60).length) c) _ (r_move) ?_
      refine FWl.val 25 rfl rfl (Value.slice A ((l.take 60).length) c) _ (r_move) ?_
      refine FWl.call 26 rfl rfl 14 #[Value.slice A ((l.take 60).length) c] (r_call1 Try.call14 rfl rfl) ((refRight_c hH7 hs1_6 (by rw [List.take_of_length_le (by omega)] at hall; exact hall) (by omega)).mono ?_)
      rintro _ w19 ⟨C20, r22, rfl, e21⟩
      have hE_23 := hE_4.step e21
      have hs1_25 := hs1_6.mono e21.le
      refine FWl.val 2 rfl rfl (Value.slice A ((l.take 60).length) c) _ (r_assign) ?_
      refine FWl.val 3 rfl rfl (Value.bool r22) _ (r_assign) ?_
      refine FWl.nil (hK10 _ _ ?_)
      clear hK10 K10
      refine FW.ret (?_)
      refine ret_tmp2 (v := Value.slice A ((l.take 60).length) c) (v' := Value.bool r22) Try.results4 (.inl rfl) rfl rfl ?_
      exact ⟨C20, _, rfl, hE_23, hs1_25⟩

end Go.Proofs.Ytlofomkhiefbmaa
