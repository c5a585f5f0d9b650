/- Walks. -/
import Derived.Test.YtlofomkhiefbmaaJH
import Derived.Test.YtlofomkhiefbmaaJT
import Derived.Test.YtlofomkhiefbmaaM7
set_option maxRecDepth 10000
set_option linter.unusedVariables false
set_option linter.unusedSimpArgs false
namespace Go.Proofs.Ytlofomkhiefbmaa
open Go.RowKit
theorem pairs1_c {B go c : Nat} {A : Option Addr} {s i j : Int} {l : List (Int × Int × Int)} {w : World} {C : Gh} (hH : Has w C) (st : St w C go [.slice A (pairsOf l).length c] 36) (hs : Sl kPair C A c (pairsOf l)) (ho : Own B 41 2 w C A (pairsOf l).length c) (hg : B ≤ go) (hl : l.length ≤ 1000) : Ret Try.prog 26 #[.int .i64 s, .int .i64 i, .int .i64 j, .pointer (some ⟨go, 0, none⟩)] w fun v w' => v = .tuple #[] ∧ ∃ C', Ext B w C w' C' ∧ ∃ (A : Option Addr) (c : Nat), St w' C' go [.slice A (pairsOf (l ++ [(s, i, j)])).length c] 36 ∧ Sl kPair C' A c (pairsOf (l ++ [(s, i, j)])) ∧ Own B 41 2 w' C' A (pairsOf (l ++ [(s, i, j)])).length c := by
  refine Ret.of Try.func26 rfl Try.ntmps26 rfl ?_
  have hE := Ext.refl (B := B) hH; have hlt_st := st.lt; have hB0 : B ≤ w.heap.size := Nat.le_trans hg (Nat.le_of_lt hlt_st); have hpl := pairsOf_len l; have hsl : (stepsOf l).length = l.length := by simp [stepsOf]
  refine FW.seq_k fun K1 hK1 => ?_
  refine FW.region rfl ?_
  refine FWl.val 7 rfl rfl (Value.int .i64 s) _ (r_move) ?_
  refine FWl.val 8 rfl rfl (Value.bool (decide (s = 1))) _ (r_eql rfl rfl) ?_
  refine FWl.nil (hK1 _ _ ?_)
  clear hK1 K1
  refine FW.cond (decide (s = 1)) rfl (fun hc1 => ?_) (fun hc1 => ?_)
  · have hp2 : s = 1 := of_decide_eq_true hc1
    refine FW.region rfl ?_
    refine FWl.val 9 rfl rfl (Value.slice A ((pairsOf l).length) c) _ (r_load1 Try.isAgg36 rfl (st.cell rfl)) ?_
    refine FWl.val 10 rfl rfl (Value.int .i64 i) _ (r_move) ?_
    refine FWl.val 11 rfl rfl (Value.int .i64 j) _ (r_move) ?_
    refine FWl.val 12 rfl rfl (Value.agg #[Value.int .i64 i, Value.int .i64 j]) _ (r_build (by kernel_rfl)) ?_
    refine FWl.lit (K := kPair) (xs := [(⟨i, j⟩ : (Int × Int))]) (cs := [Value.int .i64 i, Value.int .i64 j]) rfl rfl rfl Try.underlying36 info41 zero41 rfl (by kernel_rfl) (.cons (cs := [Value.int .i64 i, Value.int .i64 j]) (kPair_mk) .nil) rfl hH ?_
    intro A3 w4 C5 hs6 e7 hcg8
    have hE_9 := hE.trans (e7.mono (Nat.le_trans hB0 hE.size))
    have st_10 := st.call e7
    have ho_11 := ho.call e7
    have hs_12 := hs.mono e7.le
    have hH13 := e7.has
    refine FWl.app (K := kPair) (B := B) (xs := (pairsOf l)) (ys := [(⟨i, j⟩ : (Int × Int))]) (sz := 2) (bytes := 16) rfl rfl rfl Try.underlying36 info41 zero41 rfl rfl rfl rfl rfl rfl rfl hs_12 ho_11 hs6 hH13 (Nat.le_trans hB0 hE_9.size) (by simp only [List.length_cons, List.length_nil]; omega) (by simp only [List.length_cons, List.length_nil]; omega) ?_
    intro A14 c15 w16 C17 hs18 ow19 e20 ap21
    have hE_22 := hE_9.trans e20
    have st_23 := st_10.app ap21 (ho_11.nbT st_10 (by decide))
    have hH27 := e20.has
    refine FWl.store (vs := [Value.slice A14 (((pairsOf l) ++ ([(⟨i, j⟩ : (Int × Int))])).length) c15]) (cs' := [Value.slice A14 (((pairsOf l) ++ ([(⟨i, j⟩ : (Int × Int))])).length) c15]) rfl rfl rfl Try.sizeOf36 rfl st_23 hH27 rfl rfl rfl rfl rfl rfl ?_
    intro w28 m29 st_30
    have hE_31 := hE_22.trans (m29.ext (Nat.le_trans hB0 hE_22.size) (by omega))
    have ow19_32 := ow19.mut m29 (ow19.nbT st_23 (by decide))
    refine FWl.nil (?_)
    refine ret_none  Try.results26 (.inr rfl) ?_
    rw [show s = 1 by omega, pairsOf_keep]
    exact ⟨rfl, C17, hE_31, A14, c15, st_30, hs18, ow19_32⟩
  · have hp34 : ¬ (s = 1) := of_decide_eq_false hc1
    refine FW.skip (?_)
    refine ret_none  Try.results26 (.inr rfl) ?_
    rw [pairsOf_else l i j (by omega)]
    exact ⟨rfl, C, hE, A, c, st, hs, ho⟩

theorem pairs_c {A1 A2 : Option Addr} {c1 c2 : Nat} {a b : List Int} {w : World} {C : Gh} (hH : Has w C) (hsa : Sl (kInt .i64) C A1 c1 a) (hsb : Sl (kInt .i64) C A2 c2 b) (h3 : a.length ≤ 400) (h4 : b.length ≤ 400) : Ret Try.prog 12 #[Value.slice A1 a.length c1, Value.slice A2 b.length c2] w fun v w' => ∃ (C' : Gh) (A' : Option Addr) (c' : Nat), v = Value.slice A' ((pairsOf (evs a b 0 0)).length) c' ∧ Ext w.heap.size w C w' C' ∧ Sl kPair C' A' c' (pairsOf (evs a b 0 0)) := by
  refine Ret.of Try.func12 rfl Try.ntmps12 rfl ?_
  have hE := Ext.refl (B := w.heap.size) hH
  have bd_hsa := hsa.bd
  have bd_hsb := hsb.bd
  refine FW.seq_k fun K1 hK1 => ?_
  refine FW.region rfl ?_
  refine FWl.val 4 rfl rfl (Value.slice none 0 0) _ (r_assign) ?_
  refine FWl.nil (hK1 _ _ ?_)
  clear hK1 K1
  refine FW.seq_k fun K2 hK2 => ?_
  refine FW.seq_k fun K3 hK3 => ?_
  refine FW.region rfl ?_
  refine FWl.val 6 rfl rfl (Value.slice A1 a.length c1) _ (r_move) ?_
  refine FWl.val 7 rfl rfl (Value.slice A2 b.length c2) _ (r_move) ?_
  refine FWl.call 8 rfl rfl 23 #[Value.slice A1 a.length c1, Value.slice A2 b.length c2] (r_call2 Try.call23 rfl rfl rfl) ((Long_c hH hsa hsb).mono ?_)
  rintro _ w1 ⟨rfl, e3⟩
  have hE_4 := hE.step e3
  have hH5 := e3.has
  refine FWl.nil (hK3 _ _ ?_)
  clear hK3 K3
  refine FW.cond (decide (400 < a.length ∨ 400 < b.length)) rfl (fun hc6 => ?_) (fun hc6 => ?_)
  · have hp7 : 400 < a.length ∨ 400 < b.length := of_decide_eq_true hc6
    refine FW.seq_k fun K4 hK4 => ?_
    refine FW.region rfl ?_
    refine FWl.val 4 rfl rfl (Value.slice none 0 0) _ (r_assign) ?_
    refine FWl.nil (hK4 _ _ ?_)
    clear hK4 K4
    refine FW.ret (thenF_ret (?_))
    refine ret_tmp (v := Value.slice none 0 0) Try.results12 (.inl rfl) rfl ?_
    exfalso; omega
  · have hp8 : ¬ (400 < a.length ∨ 400 < b.length) := of_decide_eq_false hc6
    refine FW.skip (hK2 _ _ ?_)
    clear hK2 K2
    refine FW.seq_k fun K5 hK5 => ?_
    refine FW.region rfl ?_
    refine FWl.alloc (cs := [Value.slice none 0 0]) rfl rfl rfl Try.zeroValue36 rfl hH5 ?_
    intro g9 w10 st11 e12 hg13
    have hge_st11_hE := Nat.le_trans hE_4.size (Nat.le_of_eq hg13)
    have hE_14 := hE_4.step e12
    have hH15 := e12.has
    have hlt_st11 := st11.lt
    refine FWl.nil (hK5 _ _ ?_)
    clear hK5 K5
    refine FW.seq_k fun K6 hK6 => ?_
    refine FW.region rfl ?_
    refine FWl.val 9 rfl rfl (Value.slice A1 a.length c1) _ (r_move) ?_
    refine FWl.val 10 rfl rfl (Value.slice A2 b.length c2) _ (r_move) ?_
    refine FWl.call 11 rfl rfl 24 #[Value.slice A1 a.length c1, Value.slice A2 b.length c2] (r_call2 Try.call24 rfl rfl rfl) ((fill_c hH15 hsa hsb h3 h4).mono ?_)
    rintro _ w23 ⟨C16, gf17, A18, c19, rfl, e20, hcg21, hs22⟩
    have hE_24 := hE_14.step e20
    have st11_25 := st11.call e20
    have hsa_26 := hsa.mono e20.le
    have hsb_27 := hsb.mono e20.le
    have hH28 := e20.has
    refine FWl.val 12 rfl rfl (Value.func (.func 26) #[] #[Value.pointer (some ⟨g9, 0, none⟩)]) _ (r_makeFunc1 rfl) ?_
    refine FWl.call 13 rfl rfl 25 #[Value.pointer (some ⟨gf17, 0, none⟩), Value.func (.func 26) #[] #[Value.pointer (some ⟨g9, 0, none⟩)]] (r_call2 Try.call25 rfl rfl rfl) ((walk_p (fd := 26) (B := w.heap.size) (cap := #[Value.pointer (some ⟨g9, 0, none⟩)]) (R := (fun w' C l => ∃ (A : Option Addr) (c : Nat), St w' C g9 [.slice A (pairsOf l).length c] 36 ∧ Sl kPair C A c (pairsOf l) ∧ Own w.heap.size 41 2 w' C A (pairsOf l).length c)) hH28 hcg21 hsa_26 hsb_27 hs22 h3 h4 hE_24.size Try.call26 (fun _ _ _ _ _ h e => let ⟨A, c, st, hs, ho⟩ := h; ⟨A, c, st.call e, hs.mono e.le, ho.call e⟩) (fun _ _ _ _ _ _ hH' hR' _ _ _ _ hl' => let ⟨A, c, st, hs, ho⟩ := hR'; pairs1_c hH' st hs ho hge_st11_hE hl') ⟨none, 0, st11_25, Sl.nil _ _ _ _, Own.nil⟩).mono ?_)
    rintro _ w36 ⟨rfl, C29, e30, A31, c32, s33, hs34, ho35⟩
    have hE_37 := hE_24.trans e30
    refine FWl.nil (hK6 _ _ ?_)
    clear hK6 K6
    refine FW.seq_k fun K7 hK7 => ?_
    refine FW.region rfl ?_
    refine FWl.val 14 rfl rfl (Value.slice A31 ((pairsOf (evs a b 0 0)).length) c32) _ (r_load1 Try.isAgg36 rfl (s33.cell rfl)) ?_
    refine FWl.val 4 rfl rfl (Value.slice A31 ((pairsOf (evs a b 0 0)).length) c32) _ (r_assign) ?_
    refine FWl.nil (hK7 _ _ ?_)
    clear hK7 K7
    refine FW.ret (?_)
    refine ret_tmp (v := Value.slice A31 ((pairsOf (evs a b 0 0)).length) c32) Try.results12 (.inl rfl) rfl ?_
    exact ⟨C29, A31, c32, rfl, hE_37, hs34⟩

theorem steps1_c {B go c : Nat} {A : Option Addr} {s i j : Int} {l : List (Int × Int × Int)} {w : World} {C : Gh} (hH : Has w C) (st : St w C go [.slice A (stepsOf l).length c] 53) (hs : Sl (kInt .i64) C A c (stepsOf l)) (ho : Own B 55 1 w C A (stepsOf l).length c) (hg : B ≤ go) (hl : l.length ≤ 1000) : Ret Try.prog 37 #[.int .i64 s, .int .i64 i, .int .i64 j, .pointer (some ⟨go, 0, none⟩)] w fun v w' => v = .tuple #[] ∧ ∃ C', Ext B w C w' C' ∧ ∃ (A : Option Addr) (c : Nat), St w' C' go [.slice A (stepsOf (l ++ [(s, i, j)])).length c] 53 ∧ Sl (kInt .i64) C' A c (stepsOf (l ++ [(s, i, j)])) ∧ Own B 55 1 w' C' A (stepsOf (l ++ [(s, i, j)])).length c := by
  refine Ret.of Try.func37 rfl Try.ntmps37 rfl ?_
  have hE := Ext.refl (B := B) hH; have hlt_st := st.lt; have hB0 : B ≤ w.heap.size := Nat.le_trans hg (Nat.le_of_lt hlt_st); have hpl := pairsOf_len l; have hsl : (stepsOf l).length = l.length := by simp [stepsOf]
  refine FW.region rfl ?_
  refine FWl.val 7 rfl rfl (Value.slice A ((stepsOf l).length) c) _ (r_load1 Try.isAgg53 rfl (st.cell rfl)) ?_
  refine FWl.val 8 rfl rfl (Value.int .i64 s) _ (r_move) ?_
  refine FWl.lit (K := kInt .i64) (xs := [s]) (cs := [Value.int .i64 s]) rfl rfl rfl Try.underlying53 info55 zero55 rfl (by kernel_rfl) (.cons (cs := [Value.int .i64 s]) rfl .nil) rfl hH ?_
  intro A1 w2 C3 hs4 e5 hcg6
  have hE_7 := hE.trans (e5.mono (Nat.le_trans hB0 hE.size))
  have st_8 := st.call e5
  have ho_9 := ho.call e5
  have hs_10 := hs.mono e5.le
  have hH11 := e5.has
  refine FWl.app (K := kInt .i64) (B := B) (xs := (stepsOf l)) (ys := [s]) (sz := 1) (bytes := 8) rfl rfl rfl Try.underlying53 info55 zero55 rfl rfl rfl rfl rfl rfl rfl hs_10 ho_9 hs4 hH11 (Nat.le_trans hB0 hE_7.size) (by simp only [List.length_cons, List.length_nil]; omega) (by simp only [List.length_cons, List.length_nil]; omega) ?_
  intro A12 c13 w14 C15 hs16 ow17 e18 ap19
  have hE_20 := hE_7.trans e18
  have st_21 := st_8.app ap19 (ho_9.nbT st_8 (by decide))
  have hH25 := e18.has
  refine FWl.store (vs := [Value.slice A12 (((stepsOf l) ++ ([s])).length) c13]) (cs' := [Value.slice A12 (((stepsOf l) ++ ([s])).length) c13]) rfl rfl rfl Try.sizeOf53 rfl st_21 hH25 rfl rfl rfl rfl rfl rfl ?_
  intro w26 m27 st_28
  have hE_29 := hE_20.trans (m27.ext (Nat.le_trans hB0 hE_20.size) (by omega))
  have ow17_30 := ow17.mut m27 (ow17.nbT st_21 (by decide))
  refine FWl.nil (?_)
  refine ret_none  Try.results37 (.inr rfl) ?_
  rw [stepsOf_snoc]
  exact ⟨rfl, C15, hE_29, A12, c13, st_28, hs16, ow17_30⟩

theorem steps_c {A1 A2 : Option Addr} {c1 c2 : Nat} {a b : List Int} {w : World} {C : Gh} (hH : Has w C) (hsa : Sl (kInt .i64) C A1 c1 a) (hsb : Sl (kInt .i64) C A2 c2 b) (h3 : a.length ≤ 400) (h4 : b.length ≤ 400) : Ret Try.prog 18 #[Value.slice A1 a.length c1, Value.slice A2 b.length c2] w fun v w' => ∃ (C' : Gh) (A' : Option Addr) (c' : Nat), v = Value.slice A' ((stepsOf (evs a b 0 0)).length) c' ∧ Ext w.heap.size w C w' C' ∧ Sl (kInt .i64) C' A' c' (stepsOf (evs a b 0 0)) := by
  refine Ret.of Try.func18 rfl Try.ntmps18 rfl ?_
  have hE := Ext.refl (B := w.heap.size) hH
  have bd_hsa := hsa.bd
  have bd_hsb := hsb.bd
  refine FW.seq_k fun K1 hK1 => ?_
  refine FW.region rfl ?_
  refine FWl.val 4 rfl rfl (Value.slice none 0 0) _ (r_assign) ?_
  refine FWl.nil (hK1 _ _ ?_)
  clear hK1 K1
  refine FW.seq_k fun K2 hK2 => ?_
  refine FW.seq_k fun K3 hK3 => ?_
  refine FW.region rfl ?_
  refine FWl.val 6 rfl rfl (Value.slice A1 a.length c1) _ (r_move) ?_
  refine FWl.val 7 rfl rfl (Value.slice A2 b.length c2) _ (r_move) ?_
  refine FWl.call 8 rfl rfl 23 #[Value.slice A1 a.length c1, Value.slice A2 b.length c2] (r_call2 Try.call23 rfl rfl rfl) ((Long_c hH hsa hsb).mono ?_)
  rintro _ w1 ⟨rfl, e3⟩
  have hE_4 := hE.step e3
  have hH5 := e3.has
  refine FWl.nil (hK3 _ _ ?_)
  clear hK3 K3
  refine FW.cond (decide (400 < a.length ∨ 400 < b.length)) rfl (fun hc6 => ?_) (fun hc6 => ?_)
  · have hp7 : 400 < a.length ∨ 400 < b.length := of_decide_eq_true hc6
    refine FW.seq_k fun K4 hK4 => ?_
    refine FW.region rfl ?_
    refine FWl.val 4 rfl rfl (Value.slice none 0 0) _ (r_assign) ?_
    refine FWl.nil (hK4 _ _ ?_)
    clear hK4 K4
    refine FW.ret (thenF_ret (?_))
    refine ret_tmp (v := Value.slice none 0 0) Try.results18 (.inl rfl) rfl ?_
    exfalso; omega
  · have hp8 : ¬ (400 < a.length ∨ 400 < b.length) := of_decide_eq_false hc6
    refine FW.skip (hK2 _ _ ?_)
    clear hK2 K2
    refine FW.seq_k fun K5 hK5 => ?_
    refine FW.region rfl ?_
    refine FWl.alloc (cs := [Value.slice none 0 0]) rfl rfl rfl Try.zeroValue53 rfl hH5 ?_
    intro g9 w10 st11 e12 hg13
    have hge_st11_hE := Nat.le_trans hE_4.size (Nat.le_of_eq hg13)
    have hE_14 := hE_4.step e12
    have hH15 := e12.has
    have hlt_st11 := st11.lt
    refine FWl.nil (hK5 _ _ ?_)
    clear hK5 K5
    refine FW.seq_k fun K6 hK6 => ?_
    refine FW.region rfl ?_
    refine FWl.val 9 rfl rfl (Value.slice A1 a.length c1) _ (r_move) ?_
    refine FWl.val 10 rfl rfl (Value.slice A2 b.length c2) _ (r_move) ?_
    refine FWl.call 11 rfl rfl 24 #[Value.slice A1 a.length c1, Value.slice A2 b.length c2] (r_call2 Try.call24 rfl rfl rfl) ((fill_c hH15 hsa hsb h3 h4).mono ?_)
    rintro _ w23 ⟨C16, gf17, A18, c19, rfl, e20, hcg21, hs22⟩
    have hE_24 := hE_14.step e20
    have st11_25 := st11.call e20
    have hsa_26 := hsa.mono e20.le
    have hsb_27 := hsb.mono e20.le
    have hH28 := e20.has
    refine FWl.val 12 rfl rfl (Value.func (.func 37) #[] #[Value.pointer (some ⟨g9, 0, none⟩)]) _ (r_makeFunc1 rfl) ?_
    refine FWl.call 13 rfl rfl 25 #[Value.pointer (some ⟨gf17, 0, none⟩), Value.func (.func 37) #[] #[Value.pointer (some ⟨g9, 0, none⟩)]] (r_call2 Try.call25 rfl rfl rfl) ((walk_p (fd := 37) (B := w.heap.size) (cap := #[Value.pointer (some ⟨g9, 0, none⟩)]) (R := (fun w' C l => ∃ (A : Option Addr) (c : Nat), St w' C g9 [.slice A (stepsOf l).length c] 53 ∧ Sl (kInt .i64) C A c (stepsOf l) ∧ Own w.heap.size 55 1 w' C A (stepsOf l).length c)) hH28 hcg21 hsa_26 hsb_27 hs22 h3 h4 hE_24.size Try.call37 (fun _ _ _ _ _ h e => let ⟨A, c, st, hs, ho⟩ := h; ⟨A, c, st.call e, hs.mono e.le, ho.call e⟩) (fun _ _ _ _ _ _ hH' hR' _ _ _ _ hl' => let ⟨A, c, st, hs, ho⟩ := hR'; steps1_c hH' st hs ho hge_st11_hE hl') ⟨none, 0, st11_25, Sl.nil _ _ _ _, Own.nil⟩).mono ?_)
    rintro _ w36 ⟨rfl, C29, e30, A31, c32, s33, hs34, ho35⟩
    have hE_37 := hE_24.trans e30
    refine FWl.nil (hK6 _ _ ?_)
    clear hK6 K6
    refine FW.seq_k fun K7 hK7 => ?_
    refine FW.region rfl ?_
    refine FWl.val 14 rfl rfl (Value.slice A31 ((stepsOf (evs a b 0 0)).length) c32) _ (r_load1 Try.isAgg53 rfl (s33.cell rfl)) ?_
    refine FWl.val 4 rfl rfl (Value.slice A31 ((stepsOf (evs a b 0 0)).length) c32) _ (r_assign) ?_
    refine FWl.nil (hK7 _ _ ?_)
    clear hK7 K7
    refine FW.ret (?_)
    refine ret_tmp (v := Value.slice A31 ((stepsOf (evs a b 0 0)).length) c32) Try.results18 (.inl rfl) rfl ?_
    exact ⟨C29, A31, c32, rfl, hE_37, hs34⟩

end Go.Proofs.Ytlofomkhiefbmaa
