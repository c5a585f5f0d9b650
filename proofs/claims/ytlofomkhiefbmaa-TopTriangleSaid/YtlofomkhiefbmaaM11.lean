/- Walks. -/
import Derived.Test.YtlofomkhiefbmaaJH
import Derived.Test.YtlofomkhiefbmaaJT
import Derived.Test.YtlofomkhiefbmaaPK
import Derived.Test.YtlofomkhiefbmaaM4
import Derived.Test.YtlofomkhiefbmaaM8
import Derived.Test.YtlofomkhiefbmaaM9
set_option maxRecDepth 10000
set_option linter.unusedVariables false
set_option linter.unusedSimpArgs false
namespace Go.Proofs.Ytlofomkhiefbmaa
open Go.RowKit
theorem Make_c {A1 A2 : Option Addr} {c1 c2 : Nat} {a b : List Line} {w : World} {C : Gh} (hH : Has w C) (h1 : Sl kLine C A1 c1 a) (h2 : Sl kLine C A2 c2 b) (h3 : a.length ≤ 400) (h4 : b.length ≤ 400) : Ret Try.prog 6 #[Value.slice A1 a.length c1, Value.slice A2 b.length c2] w fun v w' => ∃ (C' : Gh) (A' : Option Addr) (c' : Nat), v = Value.tuple #[Value.slice A' ((makeS a b).length) c', Value.int .i64 0] ∧ Ext w.heap.size w C w' C' ∧ Sl kEdit C' A' c' (makeS a b) := by
  refine Ret.of Try.func6 rfl Try.ntmps6 rfl ?_
  have hE := Ext.refl (B := w.heap.size) hH
  have bd_h1 := h1.bd
  have bd_h2 := h2.bd
  refine FW.seq_k fun K1 hK1 => ?_
  refine FW.region rfl ?_
  refine FWl.val 4 rfl rfl (Value.slice none 0 0) _ (r_assign) ?_
  refine FWl.val 5 rfl rfl (Value.int .i64 0) _ (r_assign) ?_
  refine FWl.nil (hK1 _ _ ?_)
  clear hK1 K1
  refine FW.seq_k fun K2 hK2 => ?_
  refine FW.seq_k fun K3 hK3 => ?_
  refine FW.region rfl ?_
  refine FWl.val 12 rfl rfl (Value.slice A1 a.length c1) _ (r_move) ?_
  refine FWl.val 13 rfl rfl (Value.int .i64 ((a.length : Nat) : Int)) _ (r_lenSl Try.underlying22 rfl) ?_
  refine FWl.val 14 rfl rfl (Value.bool (decide (400 < ((a.length : Nat) : Int)))) _ (r_gtr rfl rfl) ?_
  refine FWl.val 15 rfl rfl (Value.bool (decide (400 < ((a.length : Nat) : Int)))) _ (r_move) ?_
  cases hb1 : (decide (400 < ((a.length : Nat) : Int))) with
  | true =>
    have hp2 : 400 < ((a.length : Nat) : Int) := of_decide_eq_true hb1
    refine FWl.skip 16 rfl rfl ?_
    refine FWl.skip 17 rfl rfl ?_
    refine FWl.skip 18 rfl rfl ?_
    refine FWl.val 19 rfl rfl (Value.bool true) _ (r_pick (t := true) rfl) ?_
    refine FWl.nil (hK3 _ _ ?_)
    clear hK3 K3
    refine FW.cond true rfl (fun _ => ?_) (fun h => nomatch h)
    refine FW.seq_k fun K4 hK4 => ?_
    refine FW.region rfl ?_
    refine FWl.val 4 rfl rfl (Value.slice none 0 0) _ (r_assign) ?_
    refine FWl.val 5 rfl rfl (Value.int .i64 4) _ (r_assign) ?_
    refine FWl.nil (hK4 _ _ ?_)
    clear hK4 K4
    refine FW.ret (thenF_ret (?_))
    refine ret_tmp2 (v := Value.slice none 0 0) (v' := Value.int .i64 4) Try.results6 (.inl rfl) rfl rfl ?_
    exfalso; omega
  | false =>
    have hp3 : ¬ (400 < ((a.length : Nat) : Int)) := of_decide_eq_false hb1
    refine FWl.val 16 rfl rfl (Value.slice A2 b.length c2) _ (r_move) ?_
    refine FWl.val 17 rfl rfl (Value.int .i64 ((b.length : Nat) : Int)) _ (r_lenSl Try.underlying22 rfl) ?_
    refine FWl.val 18 rfl rfl (Value.bool (decide (400 < ((b.length : Nat) : Int)))) _ (r_gtr rfl rfl) ?_
    refine FWl.val 19 rfl rfl (Value.bool (decide (400 < ((b.length : Nat) : Int)))) _ (r_pick (t := false) rfl) ?_
    refine FWl.nil (hK3 _ _ ?_)
    clear hK3 K3
    refine FW.cond (decide (400 < ((b.length : Nat) : Int))) rfl (fun hc4 => ?_) (fun hc4 => ?_)
    · have hp5 : 400 < ((b.length : Nat) : Int) := of_decide_eq_true hc4
      refine FW.seq_k fun K5 hK5 => ?_
      refine FW.region rfl ?_
      refine FWl.val 4 rfl rfl (Value.slice none 0 0) _ (r_assign) ?_
      refine FWl.val 5 rfl rfl (Value.int .i64 4) _ (r_assign) ?_
      refine FWl.nil (hK5 _ _ ?_)
      clear hK5 K5
      refine FW.ret (thenF_ret (?_))
      refine ret_tmp2 (v := Value.slice none 0 0) (v' := Value.int .i64 4) Try.results6 (.inl rfl) rfl rfl ?_
      exfalso; omega
    · have hp6 : ¬ (400 < ((b.length : Nat) : Int)) := of_decide_eq_false hc4
      refine FW.skip (hK2 _ _ ?_)
      clear hK2 K2
      refine FW.seq_k fun K6 hK6 => ?_
      refine FW.region rfl ?_
      refine FWl.val 20 rfl rfl (Value.slice A1 a.length c1) _ (r_move) ?_
      refine FWl.val 21 rfl rfl (Value.slice A2 b.length c2) _ (r_move) ?_
      refine FWl.lit (K := kSl kLine) (xs := [a, b]) (cs := [Value.slice A1 a.length c1, Value.slice A2 b.length c2]) rfl rfl rfl Try.underlying61 info22 zero22 rfl (by kernel_rfl) (.cons (cs := [Value.slice A1 a.length c1]) (kSl_mk h1) (.cons (cs := [Value.slice A2 b.length c2]) (kSl_mk h2) .nil)) rfl hH ?_
      intro A7 w8 C9 hs10 e11 hcg12
      have hE_13 := hE.step e11
      have h1_14 := h1.mono e11.le
      have h2_15 := h2.mono e11.le
      have hH16 := e11.has
      refine FWl.call 23 rfl rfl 10 #[Value.slice A7 (([a, b]).length) 2] (r_call1 Try.call10 rfl rfl) ((Numbers_c hH16 hs10 (by simp) (by simp; omega)).mono ?_)
      rintro _ w17 ⟨C18, ks20, A21, c22, rfl, e19, hs23, hk24⟩
      have hE_25 := hE_13.step e19
      have h1_26 := h1_14.mono e19.le
      have h2_27 := h2_15.mono e19.le
      have hH30 := e19.has
      have hs31 : Sl (kSl (kInt .i64)) C18 A21 c22 [(a.map (ix ks20)), (b.map (ix ks20))] := hs23
      refine FWl.val 6 rfl rfl (Value.slice A21 (([(a.map (ix ks20)), (b.map (ix ks20))]).length) c22) _ (r_assign) ?_
      refine FWl.nil (hK6 _ _ ?_)
      clear hK6 K6
      refine FW.seq_k fun K7 hK7 => ?_
      refine FW.region rfl ?_
      refine FWl.val 7 rfl rfl (Value.slice none 0 0) _ (r_assign) ?_
      refine FWl.nil (hK7 _ _ ?_)
      clear hK7 K7
      refine FW.seq_k fun K8 hK8 => ?_
      refine FW.region rfl ?_
      refine FWl.val 8 rfl rfl (Value.int .i64 0) _ (r_assign) ?_
      refine FWl.val 9 rfl rfl (Value.int .i64 0) _ (r_assign) ?_
      refine FWl.nil (hK8 _ _ ?_)
      clear hK8 K8
      refine FW.seq_k fun K9 hK9 => ?_
      refine FW.seq_k fun K10 hK10 => ?_
      refine FW.regionDraw mixed (SS C18 (fun _ => True) w17.drew) [] [(0, true), (1, true), (2, true), (3, true), (4, true), (5, true), (8, true), (6, false), (7, false)] rfl (by kernel_rfl) ?_
      have e33 : Ext w17.heap.size w17 C18 w17.drew C18 := (Ext.refl hH30).drew
      generalize w17.drew = w32 at *
      have hE_34 := hE_25.step e33
      have hH35 := e33.has
      have hS36 : SS C18 (fun _ => True) w32 w32 := SS.refl hH35
      have hle37 := Gle.refl C18
      refine FWs.take rfl 24 rfl rfl (Value.slice A21 (([(a.map (ix ks20)), (b.map (ix ks20))]).length) c22) hS36 (fun _ _ => r_move) ?_
      have hx39 : ([(a.map (ix ks20)), (b.map (ix ks20))] : List (List Int))[(0 : Int).toNat]? = some (a.map (ix ks20)) := rfl
      obtain ⟨cs40, hr41, hg42⟩ := hs31.at_ _ _ hx39
      obtain ⟨A43, c44, rfl, hs45⟩ := hr41
      refine FWs.take rfl 25 rfl rfl (ptrAt A21 ((0 : Int).toNat * 1)) hS36 (fun _ _ => r_indexAddr Try.underlying34 Try.sizeOf39 rfl rfl (hs31.isSome (by simp)) (by omega) (by simp)) ?_
      refine FWs.take rfl 26 rfl rfl (Value.slice A43 ((a.map (ix ks20)).length) c44) hS36 (fun _ hS' => r_loadG1 (i := 0) Try.isAgg39 hg42 rfl rfl hS'.has) ?_
      refine FWs.take rfl 27 rfl rfl (Value.slice A21 (([(a.map (ix ks20)), (b.map (ix ks20))]).length) c22) hS36 (fun _ _ => r_move) ?_
      have hx47 : ([(a.map (ix ks20)), (b.map (ix ks20))] : List (List Int))[(1 : Int).toNat]? = some (b.map (ix ks20)) := rfl
      obtain ⟨cs48, hr49, hg50⟩ := hs31.at_ _ _ hx47
      obtain ⟨A51, c52, rfl, hs53⟩ := hr49
      refine FWs.take rfl 28 rfl rfl (ptrAt A21 ((1 : Int).toNat * 1)) hS36 (fun _ _ => r_indexAddr Try.underlying34 Try.sizeOf39 rfl rfl (hs31.isSome (by simp)) (by omega) (by simp)) ?_
      refine FWs.take rfl 29 rfl rfl (Value.slice A51 ((b.map (ix ks20)).length) c52) hS36 (fun _ hS' => r_loadG1 (i := 0) Try.isAgg39 hg50 rfl rfl hS'.has) ?_
      refine FWs.take rfl 32 rfl rfl (Value.int .i64 0) hS36 (fun _ _ => r_move) ?_
      refine FWs.call rfl 30 rfl rfl 18 #[Value.slice A43 ((a.map (ix ks20)).length) c44, Value.slice A51 ((b.map (ix ks20)).length) c52] (r_call2 Try.call18 rfl rfl rfl) ((steps_c hH35 hs45 hs53 (by rw [List.length_map]; omega) (by rw [List.length_map]; omega)).mono ?_)
      rintro _ w54 ⟨C55, A57, c58, rfl, e56, hs59⟩
      have hE_60 := hE_34.step e56
      have h1_62 := h1_26.mono e56.le
      have h2_63 := h2_27.mono e56.le
      have hH71 := e56.has
      have hS72 := hS36.step e56
      refine ⟨(.inr hS72), ?_⟩
      refine FWs.val rfl 31 rfl rfl (Value.int .i64 (((stepsOf (evs (a.map (ix ks20)) (b.map (ix ks20)) 0 0)).length : Nat) : Int)) _ (r_lenSl Try.underlying53 rfl) (.inr hS72) ?_
      refine FWs.nil (hK10 _ _ ?_)
      clear hK10 K10
      refine FW.block ?_
      have hS : (stepsOf (evs (a.map (ix ks20)) (b.map (ix ks20)) 0 0)) = stepsOf (evs a b 0 0) := by
        rw [evs_map _ _ _ _ _ fun x hx y hy h => ix_inj (hk24 a (by simp) x hx) (hk24 b (by simp) y hy) h]
      have hSl : (stepsOf (evs (a.map (ix ks20)) (b.map (ix ks20)) 0 0)).length ≤ 800 := by rw [hS]; have := evs_len a b 0 0; simp only [stepsOf, List.length_map]; omega
      refine FW.loop_m (fun msr T w73 => ∃ (C74 : Gh) (k : Nat) (i : Nat) (j : Nat) (Ao : Option Addr) (co : Nat) (out : List Edit), Holds T [(0, Value.slice A1 a.length c1), (1, Value.slice A2 b.length c2), (4, Value.slice none 0 0), (5, Value.int .i64 0), (6, Value.slice A21 (([(a.map (ix ks20)), (b.map (ix ks20))]).length) c22), (7, Value.slice Ao out.length co), (8, Value.int .i64 (i : Int)), (9, Value.int .i64 (j : Int)), (12, Value.slice A1 a.length c1), (13, Value.int .i64 ((a.length : Nat) : Int)), (14, Value.bool false), (15, Value.bool false), (16, Value.slice A2 b.length c2), (17, Value.int .i64 ((b.length : Nat) : Int)), (18, Value.bool (decide (400 < ((b.length : Nat) : Int)))), (19, Value.bool (decide (400 < ((b.length : Nat) : Int)))), (20, Value.slice A1 a.length c1), (21, Value.slice A2 b.length c2), (22, Value.slice A7 (([a, b]).length) 2), (23, Value.slice A21 (([(a.map (ix ks20)), (b.map (ix ks20))]).length) c22), (24, Value.slice A21 (([(a.map (ix ks20)), (b.map (ix ks20))]).length) c22), (25, ptrAt A21 ((0 : Int).toNat * 1)), (26, Value.slice A43 ((a.map (ix ks20)).length) c44), (27, Value.slice A21 (([(a.map (ix ks20)), (b.map (ix ks20))]).length) c22), (28, ptrAt A21 ((1 : Int).toNat * 1)), (29, Value.slice A51 ((b.map (ix ks20)).length) c52), (30, Value.slice A57 ((stepsOf (evs (a.map (ix ks20)) (b.map (ix ks20)) 0 0)).length) c58), (31, Value.int .i64 (((stepsOf (evs (a.map (ix ks20)) (b.map (ix ks20)) 0 0)).length : Nat) : Int)), (32, Value.int .i64 (k : Int))] ∧ Ext (w.heap.size) w54 C55 w73 C74 ∧ (k ≤ (stepsOf (evs (a.map (ix ks20)) (b.map (ix ks20)) 0 0)).length) ∧ (Sl kEdit C74 Ao co out) ∧ (Own w.heap.size 57 2 w73 C74 Ao out.length co) ∧ (okW a.length b.length ((stepsOf (evs (a.map (ix ks20)) (b.map (ix ks20)) 0 0)).drop k) i j) ∧ (out ++ mkE a b ((stepsOf (evs (a.map (ix ks20)) (b.map (ix ks20)) 0 0)).drop k) i j = mkE a b (stepsOf (evs (a.map (ix ks20)) (b.map (ix ks20)) 0 0)) 0 0) ∧ msr = (stepsOf (evs (a.map (ix ks20)) (b.map (ix ks20)) 0 0)).length - k) ((stepsOf (evs (a.map (ix ks20)) (b.map (ix ks20)) 0 0)).length - 0) ?_ ?_
      · exact ⟨C55, 0, 0, 0, none, 0, [], ⟨rfl, rfl, rfl, rfl, rfl, rfl, rfl, rfl, rfl, rfl, rfl, rfl, rfl, rfl, rfl, rfl, rfl, rfl, rfl, rfl, rfl, rfl, rfl, rfl, rfl, rfl, rfl, rfl, rfl, trivial⟩, Ext.refl hH71, Nat.zero_le _, Sl.nil _ _ _ _, Own.nil, by rw [hS, List.drop_zero]; exact okW_evs a b _ 0 0 0 0 (Nat.le_refl _) (Nat.zero_le _) (Nat.zero_le _), by simp, rfl⟩
      · rintro msr T w73 ⟨C74, k, i, j, Ao, co, out, hT, hL1, hk, hso, oo, hok, hout, rfl⟩
        refine FW.frame hT fun B1 => ?_
        have hE_75 := hE_60.trans hL1
        have h1_76 := h1_62.mono hL1.le
        have h2_77 := h2_63.mono hL1.le
        have hs59_85 := hs59.mono hL1.le
        have hH86 := hL1.has
        have hany := fun s h => okW_any (k := k) (s := s) h hok
        have hlen := (mkE_total a b (stepsOf (evs (a.map (ix ks20)) (b.map (ix ks20)) 0 0)) 0 0).2
        rw [← hout, List.length_append] at hlen
        refine FW.seq_k fun K11 hK11 => ?_
        refine FW.region rfl ?_
        refine FWl.val 33 rfl rfl (Value.bool (decide ((k : Int) < (((stepsOf (evs (a.map (ix ks20)) (b.map (ix ks20)) 0 0)).length : Nat) : Int)))) _ (r_lss rfl rfl) ?_
        refine FWl.nil (hK11 _ _ ?_)
        clear hK11 K11
        refine FW.seq_k fun K12 hK12 => ?_
        refine FW.cond (decide ((k : Int) < (((stepsOf (evs (a.map (ix ks20)) (b.map (ix ks20)) 0 0)).length : Nat) : Int))) rfl (fun hc87 => ?_) (fun hc87 => ?_)
        · have hp88 : (k : Int) < (((stepsOf (evs (a.map (ix ks20)) (b.map (ix ks20)) 0 0)).length : Nat) : Int) := of_decide_eq_true hc87
          refine FW.skip (hK12 _ _ ?_)
          clear hK12 K12
          refine FW.seq_k fun K13 hK13 => ?_
          refine FW.block ?_
          refine FW.seq_k fun K14 hK14 => ?_
          refine FW.region rfl ?_
          obtain ⟨x89, hx90⟩ := get_some (xs := (stepsOf (evs (a.map (ix ks20)) (b.map (ix ks20)) 0 0))) (j := k) (by omega)
          obtain ⟨cs91, hr92, hg93⟩ := hs59_85.at_ _ _ hx90
          obtain rfl := hr92
          have hsv := hany _ hx90
          have hr3 := okW_in hx90 hok
          have hr1 := okW_keep hx90 hok
          have hr2 := okW_out hx90 hok
          refine FWl.val 34 rfl rfl (ptrAt A57 (((k : Int)).toNat * 1)) _ (r_indexAddr Try.underlying53 Try.sizeOf55 rfl rfl (hs59_85.isSome (by omega)) (by omega) (by omega)) ?_
          refine FWl.val 35 rfl rfl (Value.int .i64 x89) _ (r_loadG1 (i := 0) Try.isAgg55 hg93 rfl rfl hH86) ?_
          refine FWl.val 11 rfl rfl (Value.int .i64 x89) _ (r_assign) ?_
          refine FWl.nil (hK14 _ _ ?_)
          clear hK14 K14
          refine FW.seq_k fun K15 hK15 => ?_
          refine FW.region rfl ?_
          refine FWl.val 36 rfl rfl (Value.int .i64 x89) _ (r_move) ?_
          refine FWl.nil (hK15 _ _ ?_)
          clear hK15 K15
          refine FW.block ?_
          refine FW.seq_k fun K16 hK16 => ?_
          refine FW.block ?_
          refine FW.seq_k fun K17 hK17 => ?_
          refine FW.block ?_
          refine FW.seq_k fun K18 hK18 => ?_
          refine FW.block ?_
          refine FW.seq_k fun K19 hK19 => ?_
          refine FW.seq_k fun K20 hK20 => ?_
          refine FW.seq_k fun K21 hK21 => ?_
          refine FW.region rfl ?_
          refine FWl.val 38 rfl rfl (Value.bool (decide (x89 = 3))) _ (r_eql rfl rfl) ?_
          refine FWl.val 37 rfl rfl (Value.bool (decide (x89 = 3))) _ (r_assign) ?_
          refine FWl.nil (hK21 _ _ ?_)
          clear hK21 K21
          refine FW.cond (decide (x89 = 3)) rfl (fun hc94 => ?_) (fun hc94 => ?_)
          · have hp95 : x89 = 3 := of_decide_eq_true hc94
            refine FW.exit (thenF_exit (thenF_exit (inBlockF_hit (hK18 _ _ ?_))))
            clear hK18 K18 hK19 K19 hK20 K20
            refine FW.seq_k fun K22 hK22 => ?_
            refine FW.seq_k fun K23 hK23 => ?_
            refine FW.region rfl ?_
            refine FWl.val 41 rfl rfl (Value.slice Ao out.length co) _ (r_move) ?_
            refine FWl.val 42 rfl rfl (Value.int .i64 x89) _ (r_move) ?_
            refine FWl.val 43 rfl rfl (Value.slice A2 b.length c2) _ (r_move) ?_
            refine FWl.val 44 rfl rfl (Value.int .i64 (j : Int)) _ (r_move) ?_
            refine FWl.val 45 rfl rfl (Value.int .i64 (j : Int)) _ (r_move) ?_
            refine FWl.val 46 rfl rfl (Value.int .i64 ((j : Int) + 1)) _ (r_addI rfl rfl (by omega) (by omega)) ?_
            refine FWl.val 47 rfl rfl (Value.int .i64 (j : Int)) _ (r_move) ?_
            refine FWl.val 48 rfl rfl (Value.int .i64 ((j : Int) + 1)) _ (r_addI rfl rfl (by omega) (by omega)) ?_
            obtain ⟨y96, hy97⟩ := get_some (xs := b) (j := j) (by omega)
            have hs98 := h2_77.one hy97
            have hcap_hs98 := h2_77.le
            refine FWl.val 49 rfl rfl (Value.slice (A2.map (·.add (j * 2))) (([y96]).length) 1) _ (r_sliceOne (i := j) Try.underlying22 Try.sizeOf43 rfl rfl rfl rfl (by omega)) ?_
            refine FWl.val 50 rfl rfl (Value.agg #[Value.int .i64 x89, Value.slice (A2.map (·.add (j * 2))) (([y96]).length) 1]) _ (r_build (by kernel_rfl)) ?_
            refine FWl.lit (K := kEdit) (xs := [(⟨x89, [y96]⟩ : Edit)]) (cs := [Value.int .i64 x89, Value.slice (A2.map (·.add (j * 2))) (([y96]).length) 1]) rfl rfl rfl Try.underlying26 info57 zero57 rfl (by kernel_rfl) (.cons (cs := [Value.int .i64 x89, Value.slice (A2.map (·.add (j * 2))) (([y96]).length) 1]) (kEdit_mk hs98) .nil) rfl hH86 ?_
            intro A99 w100 C101 hs102 e103 hcg104
            have hE_105 := hE_75.step e103
            have hL1_106 := hL1.trans (e103.mono hE_75.size)
            have oo_107 := oo.call e103
            have hso_118 := hso.mono e103.le
            have hH121 := e103.has
            refine FWl.app (K := kEdit) (B := w.heap.size) (xs := out) (ys := [(⟨x89, [y96]⟩ : Edit)]) (sz := 2) (bytes := 32) rfl rfl rfl Try.underlying26 info57 zero57 rfl rfl rfl rfl rfl rfl rfl hso_118 oo_107 hs102 hH121 hE_105.size (by simp only [List.length_cons, List.length_nil]; omega) (by simp only [List.length_cons, List.length_nil]; omega) ?_
            intro A122 c123 w124 C125 hs126 ow127 e128 ap129
            have hL1_131 := hL1_106.trans e128
            refine FWl.val 7 rfl rfl (Value.slice A122 ((out ++ ([(⟨x89, [y96]⟩ : Edit)])).length) c123) _ (r_assign) ?_
            refine FWl.nil (hK23 _ _ ?_)
            clear hK23 K23
            refine FW.region rfl ?_
            refine FWl.val 53 rfl rfl (Value.int .i64 (j : Int)) _ (r_move) ?_
            refine FWl.val 54 rfl rfl (Value.int .i64 ((j : Int) + 1)) _ (r_addI rfl rfl (by omega) (by omega)) ?_
            refine FWl.val 9 rfl rfl (Value.int .i64 ((j : Int) + 1)) _ (r_assign) ?_
            refine FWl.nil (hK22 _ _ ?_)
            clear hK22 K22
            refine FW.exit (inBlockF_miss rfl (thenF_exit (inBlockF_miss rfl (thenF_exit (inBlockF_hit (hK13 _ _ ?_))))))
            clear hK13 K13 hK16 K16 hK17 K17
            refine FW.region rfl ?_
            refine FWl.val 71 rfl rfl (Value.int .i64 ((k : Int) + 1)) _ (r_addI rfl rfl (by omega) (by omega)) ?_
            refine FWl.val 32 rfl rfl (Value.int .i64 ((k : Int) + 1)) _ (r_move) ?_
            refine FWl.nil (thenF_norm (?_))
            refine ⟨_, ⟨C125, k + 1, i, j + 1, A122, c123, out ++ ([(⟨x89, [y96]⟩ : Edit)]), ⟨rfl, rfl, rfl, rfl, rfl, rfl, rfl, rfl, rfl, rfl, rfl, rfl, rfl, rfl, rfl, rfl, rfl, rfl, rfl, rfl, rfl, rfl, rfl, rfl, rfl, rfl, rfl, rfl, rfl, trivial⟩, hL1_131, by omega, hs126, ow127, (hr3 (by omega)).2, mkE_in (by assumption) (by omega) (by assumption) hout, rfl⟩, ?_⟩
            omega
          · have hp148 : ¬ (x89 = 3) := of_decide_eq_false hc94
            refine FW.skip (hK20 _ _ ?_)
            clear hK20 K20
            refine FW.seq_k fun K24 hK24 => ?_
            refine FW.region rfl ?_
            refine FWl.val 40 rfl rfl (Value.bool (decide (x89 = 1))) _ (r_eql rfl rfl) ?_
            refine FWl.val 39 rfl rfl (Value.bool (decide (x89 = 1))) _ (r_assign) ?_
            refine FWl.nil (hK24 _ _ ?_)
            clear hK24 K24
            refine FW.cond (decide (x89 = 1)) rfl (fun hc149 => ?_) (fun hc149 => ?_)
            · have hp150 : x89 = 1 := of_decide_eq_true hc149
              refine FW.exit (thenF_exit (inBlockF_miss rfl (thenF_exit (inBlockF_hit (hK17 _ _ ?_)))))
              clear hK17 K17 hK18 K18 hK19 K19
              refine FW.region rfl ?_
              refine FWl.val 55 rfl rfl (Value.int .i64 (j : Int)) _ (r_move) ?_
              refine FWl.val 56 rfl rfl (Value.int .i64 ((j : Int) + 1)) _ (r_addI rfl rfl (by omega) (by omega)) ?_
              refine FWl.val 9 rfl rfl (Value.int .i64 ((j : Int) + 1)) _ (r_assign) ?_
              refine FWl.nil (hK16 _ _ ?_)
              clear hK16 K16
              refine FW.seq_k fun K25 hK25 => ?_
              refine FW.seq_k fun K26 hK26 => ?_
              refine FW.region rfl ?_
              refine FWl.val 57 rfl rfl (Value.slice Ao out.length co) _ (r_move) ?_
              refine FWl.val 58 rfl rfl (Value.int .i64 x89) _ (r_move) ?_
              refine FWl.val 59 rfl rfl (Value.slice A1 a.length c1) _ (r_move) ?_
              refine FWl.val 60 rfl rfl (Value.int .i64 (i : Int)) _ (r_move) ?_
              refine FWl.val 61 rfl rfl (Value.int .i64 (i : Int)) _ (r_move) ?_
              refine FWl.val 62 rfl rfl (Value.int .i64 ((i : Int) + 1)) _ (r_addI rfl rfl (by omega) (by omega)) ?_
              refine FWl.val 63 rfl rfl (Value.int .i64 (i : Int)) _ (r_move) ?_
              refine FWl.val 64 rfl rfl (Value.int .i64 ((i : Int) + 1)) _ (r_addI rfl rfl (by omega) (by omega)) ?_
              obtain ⟨y151, hy152⟩ := get_some (xs := a) (j := i) (by omega)
              have hs153 := h1_76.one hy152
              have hcap_hs153 := h1_76.le
              refine FWl.val 65 rfl rfl (Value.slice (A1.map (·.add (i * 2))) (([y151]).length) 1) _ (r_sliceOne (i := i) Try.underlying22 Try.sizeOf43 rfl rfl rfl rfl (by omega)) ?_
              refine FWl.val 66 rfl rfl (Value.agg #[Value.int .i64 x89, Value.slice (A1.map (·.add (i * 2))) (([y151]).length) 1]) _ (r_build (by kernel_rfl)) ?_
              refine FWl.lit (K := kEdit) (xs := [(⟨x89, [y151]⟩ : Edit)]) (cs := [Value.int .i64 x89, Value.slice (A1.map (·.add (i * 2))) (([y151]).length) 1]) rfl rfl rfl Try.underlying26 info57 zero57 rfl (by kernel_rfl) (.cons (cs := [Value.int .i64 x89, Value.slice (A1.map (·.add (i * 2))) (([y151]).length) 1]) (kEdit_mk hs153) .nil) rfl hH86 ?_
              intro A154 w155 C156 hs157 e158 hcg159
              have hE_160 := hE_75.step e158
              have hL1_161 := hL1.trans (e158.mono hE_75.size)
              have oo_162 := oo.call e158
              have hso_173 := hso.mono e158.le
              have hH176 := e158.has
              refine FWl.app (K := kEdit) (B := w.heap.size) (xs := out) (ys := [(⟨x89, [y151]⟩ : Edit)]) (sz := 2) (bytes := 32) rfl rfl rfl Try.underlying26 info57 zero57 rfl rfl rfl rfl rfl rfl rfl hso_173 oo_162 hs157 hH176 hE_160.size (by simp only [List.length_cons, List.length_nil]; omega) (by simp only [List.length_cons, List.length_nil]; omega) ?_
              intro A177 c178 w179 C180 hs181 ow182 e183 ap184
              have hL1_186 := hL1_161.trans e183
              refine FWl.val 7 rfl rfl (Value.slice A177 ((out ++ ([(⟨x89, [y151]⟩ : Edit)])).length) c178) _ (r_assign) ?_
              refine FWl.nil (hK26 _ _ ?_)
              clear hK26 K26
              refine FW.region rfl ?_
              refine FWl.val 69 rfl rfl (Value.int .i64 (i : Int)) _ (r_move) ?_
              refine FWl.val 70 rfl rfl (Value.int .i64 ((i : Int) + 1)) _ (r_addI rfl rfl (by omega) (by omega)) ?_
              refine FWl.val 8 rfl rfl (Value.int .i64 ((i : Int) + 1)) _ (r_assign) ?_
              refine FWl.nil (hK25 _ _ ?_)
              clear hK25 K25
              refine FW.exit (inBlockF_hit (hK13 _ _ ?_))
              clear hK13 K13
              refine FW.region rfl ?_
              refine FWl.val 71 rfl rfl (Value.int .i64 ((k : Int) + 1)) _ (r_addI rfl rfl (by omega) (by omega)) ?_
              refine FWl.val 32 rfl rfl (Value.int .i64 ((k : Int) + 1)) _ (r_move) ?_
              refine FWl.nil (thenF_norm (?_))
              refine ⟨_, ⟨C180, k + 1, i + 1, j + 1, A177, c178, out ++ ([(⟨x89, [y151]⟩ : Edit)]), ⟨rfl, rfl, rfl, rfl, rfl, rfl, rfl, rfl, rfl, rfl, rfl, rfl, rfl, rfl, rfl, rfl, rfl, rfl, rfl, rfl, rfl, rfl, rfl, rfl, rfl, rfl, rfl, rfl, rfl, trivial⟩, hL1_186, by omega, hs181, ow182, (hr1 (by omega)).2.2, mkE_keep (by assumption) (by omega) (by assumption) hout, rfl⟩, ?_⟩
              omega
            · have hp203 : ¬ (x89 = 1) := of_decide_eq_false hc149
              refine FW.skip (hK19 _ _ ?_)
              clear hK19 K19
              refine FW.exit (inBlockF_miss rfl (thenF_exit (inBlockF_miss rfl (thenF_exit (inBlockF_hit (hK16 _ _ ?_))))))
              clear hK16 K16 hK17 K17 hK18 K18
              refine FW.seq_k fun K27 hK27 => ?_
              refine FW.seq_k fun K28 hK28 => ?_
              refine FW.region rfl ?_
              refine FWl.val 57 rfl rfl (Value.slice Ao out.length co) _ (r_move) ?_
              refine FWl.val 58 rfl rfl (Value.int .i64 x89) _ (r_move) ?_
              refine FWl.val 59 rfl rfl (Value.slice A1 a.length c1) _ (r_move) ?_
              refine FWl.val 60 rfl rfl (Value.int .i64 (i : Int)) _ (r_move) ?_
              refine FWl.val 61 rfl rfl (Value.int .i64 (i : Int)) _ (r_move) ?_
              refine FWl.val 62 rfl rfl (Value.int .i64 ((i : Int) + 1)) _ (r_addI rfl rfl (by omega) (by omega)) ?_
              refine FWl.val 63 rfl rfl (Value.int .i64 (i : Int)) _ (r_move) ?_
              refine FWl.val 64 rfl rfl (Value.int .i64 ((i : Int) + 1)) _ (r_addI rfl rfl (by omega) (by omega)) ?_
              obtain ⟨y204, hy205⟩ := get_some (xs := a) (j := i) (by omega)
              have hs206 := h1_76.one hy205
              have hcap_hs206 := h1_76.le
              refine FWl.val 65 rfl rfl (Value.slice (A1.map (·.add (i * 2))) (([y204]).length) 1) _ (r_sliceOne (i := i) Try.underlying22 Try.sizeOf43 rfl rfl rfl rfl (by omega)) ?_
              refine FWl.val 66 rfl rfl (Value.agg #[Value.int .i64 x89, Value.slice (A1.map (·.add (i * 2))) (([y204]).length) 1]) _ (r_build (by kernel_rfl)) ?_
              refine FWl.lit (K := kEdit) (xs := [(⟨x89, [y204]⟩ : Edit)]) (cs := [Value.int .i64 x89, Value.slice (A1.map (·.add (i * 2))) (([y204]).length) 1]) rfl rfl rfl Try.underlying26 info57 zero57 rfl (by kernel_rfl) (.cons (cs := [Value.int .i64 x89, Value.slice (A1.map (·.add (i * 2))) (([y204]).length) 1]) (kEdit_mk hs206) .nil) rfl hH86 ?_
              intro A207 w208 C209 hs210 e211 hcg212
              have hE_213 := hE_75.step e211
              have hL1_214 := hL1.trans (e211.mono hE_75.size)
              have oo_215 := oo.call e211
              have hso_226 := hso.mono e211.le
              have hH229 := e211.has
              refine FWl.app (K := kEdit) (B := w.heap.size) (xs := out) (ys := [(⟨x89, [y204]⟩ : Edit)]) (sz := 2) (bytes := 32) rfl rfl rfl Try.underlying26 info57 zero57 rfl rfl rfl rfl rfl rfl rfl hso_226 oo_215 hs210 hH229 hE_213.size (by simp only [List.length_cons, List.length_nil]; omega) (by simp only [List.length_cons, List.length_nil]; omega) ?_
              intro A230 c231 w232 C233 hs234 ow235 e236 ap237
              have hL1_239 := hL1_214.trans e236
              refine FWl.val 7 rfl rfl (Value.slice A230 ((out ++ ([(⟨x89, [y204]⟩ : Edit)])).length) c231) _ (r_assign) ?_
              refine FWl.nil (hK28 _ _ ?_)
              clear hK28 K28
              refine FW.region rfl ?_
              refine FWl.val 69 rfl rfl (Value.int .i64 (i : Int)) _ (r_move) ?_
              refine FWl.val 70 rfl rfl (Value.int .i64 ((i : Int) + 1)) _ (r_addI rfl rfl (by omega) (by omega)) ?_
              refine FWl.val 8 rfl rfl (Value.int .i64 ((i : Int) + 1)) _ (r_assign) ?_
              refine FWl.nil (hK27 _ _ ?_)
              clear hK27 K27
              refine FW.exit (inBlockF_hit (hK13 _ _ ?_))
              clear hK13 K13
              refine FW.region rfl ?_
              refine FWl.val 71 rfl rfl (Value.int .i64 ((k : Int) + 1)) _ (r_addI rfl rfl (by omega) (by omega)) ?_
              refine FWl.val 32 rfl rfl (Value.int .i64 ((k : Int) + 1)) _ (r_move) ?_
              refine FWl.nil (thenF_norm (?_))
              refine ⟨_, ⟨C233, k + 1, i + 1, j, A230, c231, out ++ ([(⟨x89, [y204]⟩ : Edit)]), ⟨rfl, rfl, rfl, rfl, rfl, rfl, rfl, rfl, rfl, rfl, rfl, rfl, rfl, rfl, rfl, rfl, rfl, rfl, rfl, rfl, rfl, rfl, rfl, rfl, rfl, rfl, rfl, rfl, rfl, trivial⟩, hL1_239, by omega, hs234, ow235, (hr2 (by omega) (by omega)).2, mkE_out (by assumption) (by omega) (by omega) (by assumption) hout, rfl⟩, ?_⟩
              omega
        · have hp256 : ¬ ((k : Int) < (((stepsOf (evs (a.map (ix ks20)) (b.map (ix ks20)) 0 0)).length : Nat) : Int)) := of_decide_eq_false hc87
          refine FW.exit (thenF_exit (thenF_exit (inBlockF_hit (hK9 _ _ ?_))))
          clear hK9 K9 hK12 K12
          refine FW.seq_k fun K29 hK29 => ?_
          refine FW.region rfl ?_
          refine FWl.val 72 rfl rfl (Value.slice Ao out.length co) _ (r_move) ?_
          have hfin : out = makeE a b := by rw [List.drop_eq_nil_of_le (by omega), mkE, List.append_nil] at hout; rw [hout, hS]; rfl
          refine FWl.call 73 rfl rfl 19 #[Value.slice Ao out.length co] (r_call1 Try.call19 rfl rfl) ((normal_c hH86 hso (hfin ▸ makeE_ok h3 h4)).mono ?_)
          rintro _ w257 ⟨C258, A260, c261, rfl, e259, hs262⟩
          have hE_263 := hE_75.step e259
          refine FWl.val 4 rfl rfl (Value.slice A260 ((normalS out).length) c261) _ (r_assign) ?_
          refine FWl.val 5 rfl rfl (Value.int .i64 0) _ (r_assign) ?_
          refine FWl.nil (hK29 _ _ ?_)
          clear hK29 K29
          refine FW.ret (?_)
          refine ret_tmp2 (v := Value.slice A260 ((normalS out).length) c261) (v' := Value.int .i64 0) Try.results6 (.inl rfl) rfl rfl ?_
          unfold makeS; rw [← hfin]
          exact ⟨C258, A260, c261, rfl, hE_263, hs262⟩

end Go.Proofs.Ytlofomkhiefbmaa
