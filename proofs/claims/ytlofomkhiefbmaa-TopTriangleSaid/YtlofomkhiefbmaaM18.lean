/- Walks. -/
import Derived.Test.YtlofomkhiefbmaaJH
import Derived.Test.YtlofomkhiefbmaaJT
import Derived.Test.YtlofomkhiefbmaaM10
import Derived.Test.YtlofomkhiefbmaaM12
import Derived.Test.YtlofomkhiefbmaaPU
import Derived.Test.YtlofomkhiefbmaaM17
set_option maxRecDepth 10000
set_option linter.unusedVariables false
set_option linter.unusedSimpArgs false
namespace Go.Proofs.Ytlofomkhiefbmaa
open Go.RowKit
theorem Tri_c {A1 A2 A3 : Option Addr} {c1 c2 c3 : Nat} {la lb lc : List Line} {w : World} {C : Gh} (hH : Has w C) (h1 : Sl kLine C A1 c1 la) (h2 : Sl kLine C A2 c2 lb) (h3 : Sl kLine C A3 c3 lc) : Ret Try.prog 3 #[Value.slice A1 la.length c1, Value.slice A2 lb.length c2, Value.slice A3 lc.length c3] w fun v w' => ∃ (C' : Gh), v = Value.bool true ∧ Ext w.heap.size w C w' C' := by
  refine Ret.of Try.func3 rfl Try.ntmps3 rfl ?_
  have hE := Ext.refl (B := w.heap.size) hH
  have bd_h1 := h1.bd
  have bd_h2 := h2.bd
  have bd_h3 := h3.bd
  refine FW.seq_k fun K1 hK1 => ?_
  refine FW.region rfl ?_
  refine FWl.val 6 rfl rfl (Value.bool false) _ (r_assign) ?_
  refine FWl.nil (hK1 _ _ ?_)
  clear hK1 K1
  refine FW.seq_k fun K2 hK2 => ?_
  refine FW.region rfl ?_
  refine FWl.val 24 rfl rfl (Value.slice A1 la.length c1) _ (r_move) ?_
  refine FWl.call 25 rfl rfl 4 #[Value.slice A1 la.length c1] (r_call1 Try.call4 rfl rfl) ((right_c hH h1).mono ?_)
  rintro _ w1 ⟨C2, r5, rfl, e3, hs4⟩
  have hE_6 := hE.step e3
  have h2_8 := h2.mono e3.le
  have h3_9 := h3.mono e3.le
  have hH10 := e3.has
  have hl_a : (la.take 60).length ≤ 60 := by rw [List.length_take]; omega
  generalize List.take 60 la = a at *
  refine FWl.val 23 rfl rfl (Value.tuple #[Value.slice A1 a.length c1, Value.bool r5]) _ (r_move) ?_
  refine FWl.val 26 rfl rfl (Value.slice A1 a.length c1) _ (r_extract rfl rfl) ?_
  refine FWl.val 27 rfl rfl (Value.bool r5) _ (r_extract rfl rfl) ?_
  refine FWl.val 0 rfl rfl (Value.slice A1 a.length c1) _ (r_assign) ?_
  refine FWl.val 7 rfl rfl (Value.bool r5) _ (r_assign) ?_
  refine FWl.nil (hK2 _ _ ?_)
  clear hK2 K2
  refine FW.seq_k fun K3 hK3 => ?_
  refine FW.region rfl ?_
  refine FWl.val 29 rfl rfl (Value.slice A2 lb.length c2) _ (r_move) ?_
  refine FWl.call 30 rfl rfl 4 #[Value.slice A2 lb.length c2] (r_call1 Try.call4 rfl rfl) ((right_c hH10 h2_8).mono ?_)
  rintro _ w11 ⟨C12, r15, rfl, e13, hs14⟩
  have hE_16 := hE_6.step e13
  have h3_19 := h3_9.mono e13.le
  have hs4_20 := hs4.mono e13.le
  have hH21 := e13.has
  have hl_b : (lb.take 60).length ≤ 60 := by rw [List.length_take]; omega
  generalize List.take 60 lb = b at *
  refine FWl.val 28 rfl rfl (Value.tuple #[Value.slice A2 b.length c2, Value.bool r15]) _ (r_move) ?_
  refine FWl.val 31 rfl rfl (Value.slice A2 b.length c2) _ (r_extract rfl rfl) ?_
  refine FWl.val 32 rfl rfl (Value.bool r15) _ (r_extract rfl rfl) ?_
  refine FWl.val 1 rfl rfl (Value.slice A2 b.length c2) _ (r_assign) ?_
  refine FWl.val 8 rfl rfl (Value.bool r15) _ (r_assign) ?_
  refine FWl.nil (hK3 _ _ ?_)
  clear hK3 K3
  refine FW.seq_k fun K4 hK4 => ?_
  refine FW.region rfl ?_
  refine FWl.val 34 rfl rfl (Value.slice A3 lc.length c3) _ (r_move) ?_
  refine FWl.call 35 rfl rfl 4 #[Value.slice A3 lc.length c3] (r_call1 Try.call4 rfl rfl) ((right_c hH21 h3_19).mono ?_)
  rintro _ w22 ⟨C23, r26, rfl, e24, hs25⟩
  have hE_27 := hE_16.step e24
  have hs4_31 := hs4_20.mono e24.le
  have hs14_32 := hs14.mono e24.le
  have hH33 := e24.has
  have hl_c : (lc.take 60).length ≤ 60 := by rw [List.length_take]; omega
  generalize List.take 60 lc = c at *
  refine FWl.val 33 rfl rfl (Value.tuple #[Value.slice A3 c.length c3, Value.bool r26]) _ (r_move) ?_
  refine FWl.val 36 rfl rfl (Value.slice A3 c.length c3) _ (r_extract rfl rfl) ?_
  refine FWl.val 37 rfl rfl (Value.bool r26) _ (r_extract rfl rfl) ?_
  refine FWl.val 2 rfl rfl (Value.slice A3 c.length c3) _ (r_assign) ?_
  refine FWl.val 9 rfl rfl (Value.bool r26) _ (r_assign) ?_
  refine FWl.nil (hK4 _ _ ?_)
  clear hK4 K4
  refine FW.seq_k fun K5 hK5 => ?_
  refine FW.seq_k fun K6 hK6 => ?_
  refine FW.region rfl ?_
  refine FWl.val 38 rfl rfl (Value.bool r5) _ (r_move) ?_
  refine FWl.val 39 rfl rfl (Value.bool (!r5)) _ (r_not rfl) ?_
  refine FWl.val 40 rfl rfl (Value.bool (!r5)) _ (r_move) ?_
  cases hb34 : (!r5) with
  | true =>
    have hp35 : ¬ (r5 = true) := by simpa using hb34
    refine FWl.skip 41 rfl rfl ?_
    refine FWl.skip 42 rfl rfl ?_
    refine FWl.val 43 rfl rfl (Value.bool true) _ (r_pick (t := true) rfl) ?_
    refine FWl.val 44 rfl rfl (Value.bool true) _ (r_move) ?_
    refine FWl.skip 45 rfl rfl ?_
    refine FWl.skip 46 rfl rfl ?_
    refine FWl.val 47 rfl rfl (Value.bool true) _ (r_pick (t := true) rfl) ?_
    refine FWl.nil (hK6 _ _ ?_)
    clear hK6 K6
    refine FW.cond true rfl (fun _ => ?_) (fun h => nomatch h)
    refine FW.seq_k fun K7 hK7 => ?_
    refine FW.region rfl ?_
    refine FWl.call 48 rfl rfl 5 #[] (r_call0 Try.call5 rfl ) ((patchLives_c hH33).mono ?_)
    rintro _ w36 ⟨C37, rfl, e38⟩
    have hE_39 := hE_27.step e38
    refine FWl.val 6 rfl rfl (Value.bool true) _ (r_assign) ?_
    refine FWl.nil (hK7 _ _ ?_)
    clear hK7 K7
    refine FW.ret (thenF_ret (?_))
    refine ret_tmp (v := Value.bool true) Try.results3 (.inl rfl) rfl ?_
    exact ⟨C37, rfl, hE_39⟩
  | false =>
    have hp47 : r5 = true := by simpa using hb34
    refine FWl.val 41 rfl rfl (Value.bool r15) _ (r_move) ?_
    refine FWl.val 42 rfl rfl (Value.bool (!r15)) _ (r_not rfl) ?_
    refine FWl.val 43 rfl rfl (Value.bool (!r15)) _ (r_pick (t := false) rfl) ?_
    refine FWl.val 44 rfl rfl (Value.bool (!r15)) _ (r_move) ?_
    cases hb48 : (!r15) with
    | true =>
      have hp49 : ¬ (r15 = true) := by simpa using hb48
      refine FWl.skip 45 rfl rfl ?_
      refine FWl.skip 46 rfl rfl ?_
      refine FWl.val 47 rfl rfl (Value.bool true) _ (r_pick (t := true) rfl) ?_
      refine FWl.nil (hK6 _ _ ?_)
      clear hK6 K6
      refine FW.cond true rfl (fun _ => ?_) (fun h => nomatch h)
      refine FW.seq_k fun K8 hK8 => ?_
      refine FW.region rfl ?_
      refine FWl.call 48 rfl rfl 5 #[] (r_call0 Try.call5 rfl ) ((patchLives_c hH33).mono ?_)
      rintro _ w50 ⟨C51, rfl, e52⟩
      have hE_53 := hE_27.step e52
      refine FWl.val 6 rfl rfl (Value.bool true) _ (r_assign) ?_
      refine FWl.nil (hK8 _ _ ?_)
      clear hK8 K8
      refine FW.ret (thenF_ret (?_))
      refine ret_tmp (v := Value.bool true) Try.results3 (.inl rfl) rfl ?_
      exact ⟨C51, rfl, hE_53⟩
    | false =>
      have hp61 : r15 = true := by simpa using hb48
      refine FWl.val 45 rfl rfl (Value.bool r26) _ (r_move) ?_
      refine FWl.val 46 rfl rfl (Value.bool (!r26)) _ (r_not rfl) ?_
      refine FWl.val 47 rfl rfl (Value.bool (!r26)) _ (r_pick (t := false) rfl) ?_
      refine FWl.nil (hK6 _ _ ?_)
      clear hK6 K6
      refine FW.cond (!r26) rfl (fun hc62 => ?_) (fun hc62 => ?_)
      · have hp63 : ¬ (r26 = true) := by simpa using hc62
        refine FW.seq_k fun K9 hK9 => ?_
        refine FW.region rfl ?_
        refine FWl.call 48 rfl rfl 5 #[] (r_call0 Try.call5 rfl ) ((patchLives_c hH33).mono ?_)
        rintro _ w64 ⟨C65, rfl, e66⟩
        have hE_67 := hE_27.step e66
        refine FWl.val 6 rfl rfl (Value.bool true) _ (r_assign) ?_
        refine FWl.nil (hK9 _ _ ?_)
        clear hK9 K9
        refine FW.ret (thenF_ret (?_))
        refine ret_tmp (v := Value.bool true) Try.results3 (.inl rfl) rfl ?_
        exact ⟨C65, rfl, hE_67⟩
      · have hp75 : r26 = true := by simpa using hc62
        refine FW.skip (hK5 _ _ ?_)
        clear hK5 K5
        refine FW.seq_k fun K10 hK10 => ?_
        refine FW.region rfl ?_
        refine FWl.val 50 rfl rfl (Value.slice A1 a.length c1) _ (r_move) ?_
        refine FWl.val 51 rfl rfl (Value.slice A2 b.length c2) _ (r_move) ?_
        refine FWl.call 52 rfl rfl 6 #[Value.slice A1 a.length c1, Value.slice A2 b.length c2] (r_call2 Try.call6 rfl rfl rfl) ((Make_c hH33 hs4_31 hs14_32 (by omega) (by omega)).mono ?_)
        rintro _ w76 ⟨C77, A79, c80, rfl, e78, hs81⟩
        have hE_82 := hE_27.step e78
        have hs4_86 := hs4_31.mono e78.le
        have hs14_87 := hs14_32.mono e78.le
        have hs25_88 := hs25.mono e78.le
        have hH89 := e78.has
        have hm90 := makeS_law (a := a) (b := b) (by omega) (by omega)
        have hm90c := hm90.2.2.2.1
        have hm90p := (pairs_law a b 0 0).2
        refine FWl.val 49 rfl rfl (Value.tuple #[Value.slice A79 ((makeS a b).length) c80, Value.int .i64 0]) _ (r_move) ?_
        refine FWl.val 53 rfl rfl (Value.slice A79 ((makeS a b).length) c80) _ (r_extract rfl rfl) ?_
        refine FWl.val 54 rfl rfl (Value.int .i64 0) _ (r_extract rfl rfl) ?_
        refine FWl.val 10 rfl rfl (Value.slice A79 ((makeS a b).length) c80) _ (r_assign) ?_
        refine FWl.val 11 rfl rfl (Value.int .i64 0) _ (r_assign) ?_
        refine FWl.nil (hK10 _ _ ?_)
        clear hK10 K10
        refine FW.seq_k fun K11 hK11 => ?_
        refine FW.region rfl ?_
        refine FWl.val 56 rfl rfl (Value.slice A2 b.length c2) _ (r_move) ?_
        refine FWl.val 57 rfl rfl (Value.slice A3 c.length c3) _ (r_move) ?_
        refine FWl.call 58 rfl rfl 6 #[Value.slice A2 b.length c2, Value.slice A3 c.length c3] (r_call2 Try.call6 rfl rfl rfl) ((Make_c hH89 hs14_87 hs25_88 (by omega) (by omega)).mono ?_)
        rintro _ w91 ⟨C92, A94, c95, rfl, e93, hs96⟩
        have hE_97 := hE_82.step e93
        have hs4_101 := hs4_86.mono e93.le
        have hs14_102 := hs14_87.mono e93.le
        have hs25_103 := hs25_88.mono e93.le
        have hs81_104 := hs81.mono e93.le
        have hH105 := e93.has
        have hm106 := makeS_law (a := b) (b := c) (by omega) (by omega)
        have hm106c := hm106.2.2.2.1
        have hm106p := (pairs_law b c 0 0).2
        refine FWl.val 55 rfl rfl (Value.tuple #[Value.slice A94 ((makeS b c).length) c95, Value.int .i64 0]) _ (r_move) ?_
        refine FWl.val 59 rfl rfl (Value.slice A94 ((makeS b c).length) c95) _ (r_extract rfl rfl) ?_
        refine FWl.val 60 rfl rfl (Value.int .i64 0) _ (r_extract rfl rfl) ?_
        refine FWl.val 12 rfl rfl (Value.slice A94 ((makeS b c).length) c95) _ (r_assign) ?_
        refine FWl.val 13 rfl rfl (Value.int .i64 0) _ (r_assign) ?_
        refine FWl.nil (hK11 _ _ ?_)
        clear hK11 K11
        refine FW.seq_k fun K12 hK12 => ?_
        refine FW.region rfl ?_
        refine FWl.val 62 rfl rfl (Value.slice A1 a.length c1) _ (r_move) ?_
        refine FWl.val 63 rfl rfl (Value.slice A3 c.length c3) _ (r_move) ?_
        refine FWl.call 64 rfl rfl 6 #[Value.slice A1 a.length c1, Value.slice A3 c.length c3] (r_call2 Try.call6 rfl rfl rfl) ((Make_c hH105 hs4_101 hs25_103 (by omega) (by omega)).mono ?_)
        rintro _ w107 ⟨C108, A110, c111, rfl, e109, hs112⟩
        have hE_113 := hE_97.step e109
        have hs4_117 := hs4_101.mono e109.le
        have hs14_118 := hs14_102.mono e109.le
        have hs25_119 := hs25_103.mono e109.le
        have hs81_120 := hs81_104.mono e109.le
        have hs96_121 := hs96.mono e109.le
        have hH122 := e109.has
        have hm123 := makeS_law (a := a) (b := c) (by omega) (by omega)
        have hm123c := hm123.2.2.2.1
        have hm123p := (pairs_law a c 0 0).2
        refine FWl.val 61 rfl rfl (Value.tuple #[Value.slice A110 ((makeS a c).length) c111, Value.int .i64 0]) _ (r_move) ?_
        refine FWl.val 65 rfl rfl (Value.slice A110 ((makeS a c).length) c111) _ (r_extract rfl rfl) ?_
        refine FWl.val 66 rfl rfl (Value.int .i64 0) _ (r_extract rfl rfl) ?_
        refine FWl.val 14 rfl rfl (Value.slice A110 ((makeS a c).length) c111) _ (r_assign) ?_
        refine FWl.val 15 rfl rfl (Value.int .i64 0) _ (r_assign) ?_
        refine FWl.nil (hK12 _ _ ?_)
        clear hK12 K12
        refine FW.seq_k fun K13 hK13 => ?_
        refine FW.region rfl ?_
        refine FWl.val 68 rfl rfl (Value.slice A79 ((makeS a b).length) c80) _ (r_move) ?_
        refine FWl.val 69 rfl rfl (Value.slice A1 a.length c1) _ (r_move) ?_
        refine FWl.call 70 rfl rfl 7 #[Value.slice A79 ((makeS a b).length) c80, Value.slice A1 a.length c1] (r_call2 Try.call7 rfl rfl rfl) ((Apply_c hH122 hs81_120 hs4_117 hm90.1 hm90.2.1).mono ?_)
        rintro _ w124 ⟨C125, A127, c128, rfl, e126, hs129⟩
        rw [hm90.2.2.1] at hs129 ⊢
        have hE_130 := hE_113.step e126
        have hs4_134 := hs4_117.mono e126.le
        have hs14_135 := hs14_118.mono e126.le
        have hs25_136 := hs25_119.mono e126.le
        have hs81_137 := hs81_120.mono e126.le
        have hs96_138 := hs96_121.mono e126.le
        have hs112_139 := hs112.mono e126.le
        have hH140 := e126.has
        refine FWl.val 67 rfl rfl (Value.tuple #[Value.slice A127 b.length c128, Value.int .i64 0]) _ (r_move) ?_
        refine FWl.val 71 rfl rfl (Value.slice A127 b.length c128) _ (r_extract rfl rfl) ?_
        refine FWl.val 72 rfl rfl (Value.int .i64 0) _ (r_extract rfl rfl) ?_
        refine FWl.val 16 rfl rfl (Value.slice A127 b.length c128) _ (r_assign) ?_
        refine FWl.val 17 rfl rfl (Value.int .i64 0) _ (r_assign) ?_
        refine FWl.nil (hK13 _ _ ?_)
        clear hK13 K13
        refine FW.seq_k fun K14 hK14 => ?_
        refine FW.region rfl ?_
        refine FWl.val 74 rfl rfl (Value.slice A94 ((makeS b c).length) c95) _ (r_move) ?_
        refine FWl.val 75 rfl rfl (Value.slice A127 b.length c128) _ (r_move) ?_
        refine FWl.call 76 rfl rfl 7 #[Value.slice A94 ((makeS b c).length) c95, Value.slice A127 b.length c128] (r_call2 Try.call7 rfl rfl rfl) ((Apply_c hH140 hs96_138 hs129 hm106.1 hm106.2.1).mono ?_)
        rintro _ w141 ⟨C142, A144, c145, rfl, e143, hs146⟩
        rw [hm106.2.2.1] at hs146 ⊢
        have hE_147 := hE_130.step e143
        have hs4_151 := hs4_134.mono e143.le
        have hs14_152 := hs14_135.mono e143.le
        have hs25_153 := hs25_136.mono e143.le
        have hs81_154 := hs81_137.mono e143.le
        have hs96_155 := hs96_138.mono e143.le
        have hs112_156 := hs112_139.mono e143.le
        have hH158 := e143.has
        refine FWl.val 73 rfl rfl (Value.tuple #[Value.slice A144 c.length c145, Value.int .i64 0]) _ (r_move) ?_
        refine FWl.val 77 rfl rfl (Value.slice A144 c.length c145) _ (r_extract rfl rfl) ?_
        refine FWl.val 78 rfl rfl (Value.int .i64 0) _ (r_extract rfl rfl) ?_
        refine FWl.val 18 rfl rfl (Value.slice A144 c.length c145) _ (r_assign) ?_
        refine FWl.val 19 rfl rfl (Value.int .i64 0) _ (r_assign) ?_
        refine FWl.nil (hK14 _ _ ?_)
        clear hK14 K14
        refine FW.seq_k fun K15 hK15 => ?_
        refine FW.seq_k fun K16 hK16 => ?_
        refine FW.region rfl ?_
        refine FWl.val 79 rfl rfl (Value.int .i64 0) _ (r_move) ?_
        refine FWl.val 80 rfl rfl (Value.bool false) _ (r_neq (a := 0) (b := 0) rfl rfl) ?_
        refine FWl.val 81 rfl rfl (Value.bool false) _ (r_move) ?_
        refine FWl.val 82 rfl rfl (Value.int .i64 0) _ (r_move) ?_
        refine FWl.val 83 rfl rfl (Value.bool false) _ (r_neq (a := 0) (b := 0) rfl rfl) ?_
        refine FWl.val 84 rfl rfl (Value.bool false) _ (r_pick (t := false) rfl) ?_
        refine FWl.val 85 rfl rfl (Value.bool false) _ (r_move) ?_
        refine FWl.val 86 rfl rfl (Value.int .i64 0) _ (r_move) ?_
        refine FWl.val 87 rfl rfl (Value.bool false) _ (r_neq (a := 0) (b := 0) rfl rfl) ?_
        refine FWl.val 88 rfl rfl (Value.bool false) _ (r_pick (t := false) rfl) ?_
        refine FWl.val 89 rfl rfl (Value.bool false) _ (r_move) ?_
        refine FWl.val 90 rfl rfl (Value.int .i64 0) _ (r_move) ?_
        refine FWl.val 91 rfl rfl (Value.bool false) _ (r_neq (a := 0) (b := 0) rfl rfl) ?_
        refine FWl.val 92 rfl rfl (Value.bool false) _ (r_pick (t := false) rfl) ?_
        refine FWl.val 93 rfl rfl (Value.bool false) _ (r_move) ?_
        refine FWl.val 94 rfl rfl (Value.int .i64 0) _ (r_move) ?_
        refine FWl.val 95 rfl rfl (Value.bool false) _ (r_neq (a := 0) (b := 0) rfl rfl) ?_
        refine FWl.val 96 rfl rfl (Value.bool false) _ (r_pick (t := false) rfl) ?_
        refine FWl.val 97 rfl rfl (Value.bool false) _ (r_move) ?_
        refine FWl.val 98 rfl rfl (Value.slice A144 c.length c145) _ (r_move) ?_
        refine FWl.val 99 rfl rfl (Value.slice A3 c.length c3) _ (r_move) ?_
        refine FWl.call 100 rfl rfl 8 #[Value.slice A144 c.length c145, Value.slice A3 c.length c3] (r_call2 Try.call8 rfl rfl rfl) ((Same_c hH158 hs146 hs25_153).mono ?_)
        rintro _ w159 ⟨rfl, e160⟩
        rw [show decide (c = c) = true from decide_eq_true rfl]
        have hE_161 := hE_147.step e160
        have hH162 := e160.has
        refine FWl.val 101 rfl rfl (Value.bool false) _ (r_not (b := true) rfl) ?_
        refine FWl.val 102 rfl rfl (Value.bool false) _ (r_pick (t := false) rfl) ?_
        refine FWl.val 103 rfl rfl (Value.bool false) _ (r_move) ?_
        refine FWl.val 104 rfl rfl (Value.slice A110 ((makeS a c).length) c111) _ (r_move) ?_
        refine FWl.call 105 rfl rfl 9 #[Value.slice A110 ((makeS a c).length) c111] (r_call1 Try.call9 rfl rfl) ((Changed_c hH162 hs112_156 hm123.1).mono ?_)
        rintro _ w163 ⟨C165, rfl, e164⟩
        have hE_166 := hE_161.step e164
        have hs4_170 := hs4_151.mono e164.le
        have hs14_171 := hs14_152.mono e164.le
        have hs25_172 := hs25_153.mono e164.le
        have hs81_173 := hs81_154.mono e164.le
        have hs96_174 := hs96_155.mono e164.le
        have hs112_175 := hs112_156.mono e164.le
        have hH178 := e164.has
        refine FWl.val 106 rfl rfl (Value.slice A79 ((makeS a b).length) c80) _ (r_move) ?_
        refine FWl.call 107 rfl rfl 9 #[Value.slice A79 ((makeS a b).length) c80] (r_call1 Try.call9 rfl rfl) ((Changed_c hH178 hs81_173 hm90.1).mono ?_)
        rintro _ w179 ⟨C181, rfl, e180⟩
        have hE_182 := hE_166.step e180
        have hs4_186 := hs4_170.mono e180.le
        have hs14_187 := hs14_171.mono e180.le
        have hs25_188 := hs25_172.mono e180.le
        have hs96_190 := hs96_174.mono e180.le
        have hs112_191 := hs112_175.mono e180.le
        have hH194 := e180.has
        refine FWl.val 108 rfl rfl (Value.slice A94 ((makeS b c).length) c95) _ (r_move) ?_
        refine FWl.call 109 rfl rfl 9 #[Value.slice A94 ((makeS b c).length) c95] (r_call1 Try.call9 rfl rfl) ((Changed_c hH194 hs96_190 hm106.1).mono ?_)
        rintro _ w195 ⟨C197, rfl, e196⟩
        have hE_198 := hE_182.step e196
        have hs4_202 := hs4_186.mono e196.le
        have hs14_203 := hs14_187.mono e196.le
        have hs25_204 := hs25_188.mono e196.le
        have hs112_207 := hs112_191.mono e196.le
        have hH210 := e196.has
        refine FWl.val 110 rfl rfl (Value.int .i64 ((changed (makeS a b) : Int) + (changed (makeS b c) : Int))) _ (r_addI rfl rfl (by omega) (by omega)) ?_
        refine FWl.val 111 rfl rfl (Value.bool (decide (((changed (makeS a b) : Int) + (changed (makeS b c) : Int)) < (changed (makeS a c) : Int)))) _ (r_gtr rfl rfl) ?_
        refine FWl.val 112 rfl rfl (Value.bool (decide (((changed (makeS a b) : Int) + (changed (makeS b c) : Int)) < (changed (makeS a c) : Int)))) _ (r_pick (t := false) rfl) ?_
        refine FWl.nil (hK16 _ _ ?_)
        clear hK16 K16
        refine FW.cond (decide (((changed (makeS a b) : Int) + (changed (makeS b c) : Int)) < (changed (makeS a c) : Int))) rfl (fun hc211 => ?_) (fun hc211 => ?_)
        · have hp212 : ((changed (makeS a b) : Int) + (changed (makeS b c) : Int)) < (changed (makeS a c) : Int) := of_decide_eq_true hc211
          refine FW.seq_k fun K17 hK17 => ?_
          refine FW.region rfl ?_
          refine FWl.val 6 rfl rfl (Value.bool false) _ (r_assign) ?_
          refine FWl.nil (hK17 _ _ ?_)
          clear hK17 K17
          refine FW.ret (thenF_ret (?_))
          refine ret_tmp (v := Value.bool false) Try.results3 (.inl rfl) rfl ?_
          exfalso; first | omega | (have := ed_tri a b c; omega) | (simp_all; done)
        · have hp213 : ¬ (((changed (makeS a b) : Int) + (changed (makeS b c) : Int)) < (changed (makeS a c) : Int)) := of_decide_eq_false hc211
          refine FW.skip (hK15 _ _ ?_)
          clear hK15 K15
          refine FW.seq_k fun K18 hK18 => ?_
          refine FW.region rfl ?_
          refine FWl.val 113 rfl rfl (Value.slice A1 a.length c1) _ (r_move) ?_
          refine FWl.val 114 rfl rfl (Value.slice A2 b.length c2) _ (r_move) ?_
          refine FWl.val 115 rfl rfl (Value.slice A3 c.length c3) _ (r_move) ?_
          refine FWl.lit (K := kSl kLine) (xs := [a, b, c]) (cs := [Value.slice A1 a.length c1, Value.slice A2 b.length c2, Value.slice A3 c.length c3]) rfl rfl rfl Try.underlying61 info22 zero22 rfl (by kernel_rfl) (.cons (cs := [Value.slice A1 a.length c1]) (kSl_mk hs4_202) (.cons (cs := [Value.slice A2 b.length c2]) (kSl_mk hs14_203) (.cons (cs := [Value.slice A3 c.length c3]) (kSl_mk hs25_204) .nil))) rfl hH210 ?_
          intro A214 w215 C216 hs217 e218 hcg219
          have hE_220 := hE_198.step e218
          have hs4_224 := hs4_202.mono e218.le
          have hs25_226 := hs25_204.mono e218.le
          have hs112_229 := hs112_207.mono e218.le
          have hH232 := e218.has
          refine FWl.call 117 rfl rfl 10 #[Value.slice A214 (([a, b, c]).length) 3] (r_call1 Try.call10 rfl rfl) ((Numbers_c hH232 hs217 (by simp) (by simp; omega)).mono ?_)
          rintro _ w233 ⟨C234, ks236, A237, c238, rfl, e235, hs239, hk240⟩
          have hE_241 := hE_220.step e235
          have hs4_245 := hs4_224.mono e235.le
          have hs25_247 := hs25_226.mono e235.le
          have hs112_250 := hs112_229.mono e235.le
          have hH255 := e235.has
          have hs256 : Sl (kSl (kInt .i64)) C234 A237 c238 [(a.map (ix ks236)), (b.map (ix ks236)), (c.map (ix ks236))] := hs239
          refine FWl.val 20 rfl rfl (Value.slice A237 (([(a.map (ix ks236)), (b.map (ix ks236)), (c.map (ix ks236))]).length) c238) _ (r_assign) ?_
          refine FWl.nil (hK18 _ _ ?_)
          clear hK18 K18
          refine FW.seq_k fun K19 hK19 => ?_
          refine FW.seq_k fun K20 hK20 => ?_
          refine FW.region rfl ?_
          refine FWl.val 118 rfl rfl (Value.slice A237 (([(a.map (ix ks236)), (b.map (ix ks236)), (c.map (ix ks236))]).length) c238) _ (r_move) ?_
          refine FWl.val 119 rfl rfl (Value.int .i64 3) _ (r_lenSl Try.underlying34 rfl) ?_
          refine FWl.val 120 rfl rfl (Value.bool false) _ (r_neq (a := 3) (b := 3) rfl rfl) ?_
          refine FWl.nil (hK20 _ _ ?_)
          clear hK20 K20
          refine FW.cond false rfl (fun h => nomatch h) (fun _ => ?_)
          refine FW.skip (hK19 _ _ ?_)
          clear hK19 K19
          refine FW.seq_k fun K21 hK21 => ?_
          refine FW.regionDraw mixed (SS C234 (fun _ => True) w233.drew) [] [(0, true), (1, true), (2, true), (3, true), (4, true), (5, true), (7, true), (8, true), (9, true), (10, true), (11, true), (12, true), (6, false), (13, false), (14, false), (15, false)] rfl (by kernel_rfl) ?_
          have e258 : Ext w233.heap.size w233 C234 w233.drew C234 := (Ext.refl hH255).drew
          generalize w233.drew = w257 at *
          have hE_259 := hE_241.step e258
          have hH260 := e258.has
          have hS261 : SS C234 (fun _ => True) w257 w257 := SS.refl hH260
          have hle262 := Gle.refl C234
          refine FWs.take rfl 121 rfl rfl (Value.slice A237 (([(a.map (ix ks236)), (b.map (ix ks236)), (c.map (ix ks236))]).length) c238) hS261 (fun _ _ => r_move) ?_
          have hx264 : ([(a.map (ix ks236)), (b.map (ix ks236)), (c.map (ix ks236))] : List (List Int))[(0 : Int).toNat]? = some (a.map (ix ks236)) := rfl
          obtain ⟨cs265, hr266, hg267⟩ := hs256.at_ _ _ hx264
          obtain ⟨A268, c269, rfl, hs270⟩ := hr266
          refine FWs.take rfl 122 rfl rfl (ptrAt A237 ((0 : Int).toNat * 1)) hS261 (fun _ _ => r_indexAddr Try.underlying34 Try.sizeOf39 rfl rfl (hs256.isSome (by simp)) (by omega) (by simp)) ?_
          refine FWs.take rfl 123 rfl rfl (Value.slice A268 ((a.map (ix ks236)).length) c269) hS261 (fun _ hS' => r_loadG1 (i := 0) Try.isAgg39 hg267 rfl rfl hS'.has) ?_
          refine FWs.take rfl 124 rfl rfl (Value.slice A237 (([(a.map (ix ks236)), (b.map (ix ks236)), (c.map (ix ks236))]).length) c238) hS261 (fun _ _ => r_move) ?_
          have hx272 : ([(a.map (ix ks236)), (b.map (ix ks236)), (c.map (ix ks236))] : List (List Int))[(1 : Int).toNat]? = some (b.map (ix ks236)) := rfl
          obtain ⟨cs273, hr274, hg275⟩ := hs256.at_ _ _ hx272
          obtain ⟨A276, c277, rfl, hs278⟩ := hr274
          refine FWs.take rfl 125 rfl rfl (ptrAt A237 ((1 : Int).toNat * 1)) hS261 (fun _ _ => r_indexAddr Try.underlying34 Try.sizeOf39 rfl rfl (hs256.isSome (by simp)) (by omega) (by simp)) ?_
          refine FWs.take rfl 126 rfl rfl (Value.slice A276 ((b.map (ix ks236)).length) c277) hS261 (fun _ hS' => r_loadG1 (i := 0) Try.isAgg39 hg275 rfl rfl hS'.has) ?_
          refine FWs.take rfl 128 rfl rfl (Value.slice A237 (([(a.map (ix ks236)), (b.map (ix ks236)), (c.map (ix ks236))]).length) c238) hS261 (fun _ _ => r_move) ?_
          refine FWs.take rfl 129 rfl rfl (ptrAt A237 ((1 : Int).toNat * 1)) hS261 (fun _ _ => r_indexAddr Try.underlying34 Try.sizeOf39 rfl rfl (hs256.isSome (by simp)) (by omega) (by simp)) ?_
          refine FWs.take rfl 130 rfl rfl (Value.slice A276 ((b.map (ix ks236)).length) c277) hS261 (fun _ hS' => r_loadG1 (i := 0) Try.isAgg39 hg275 rfl rfl hS'.has) ?_
          refine FWs.take rfl 131 rfl rfl (Value.slice A237 (([(a.map (ix ks236)), (b.map (ix ks236)), (c.map (ix ks236))]).length) c238) hS261 (fun _ _ => r_move) ?_
          have hx280 : ([(a.map (ix ks236)), (b.map (ix ks236)), (c.map (ix ks236))] : List (List Int))[(2 : Int).toNat]? = some (c.map (ix ks236)) := rfl
          obtain ⟨cs281, hr282, hg283⟩ := hs256.at_ _ _ hx280
          obtain ⟨A284, c285, rfl, hs286⟩ := hr282
          refine FWs.take rfl 132 rfl rfl (ptrAt A237 ((2 : Int).toNat * 1)) hS261 (fun _ _ => r_indexAddr Try.underlying34 Try.sizeOf39 rfl rfl (hs256.isSome (by simp)) (by omega) (by simp)) ?_
          refine FWs.take rfl 133 rfl rfl (Value.slice A284 ((c.map (ix ks236)).length) c285) hS261 (fun _ hS' => r_loadG1 (i := 0) Try.isAgg39 hg283 rfl rfl hS'.has) ?_
          refine FWs.call rfl 127 rfl rfl 12 #[Value.slice A268 ((a.map (ix ks236)).length) c269, Value.slice A276 ((b.map (ix ks236)).length) c277] (r_call2 Try.call12 rfl rfl rfl) ((pairs_c hH260 hs270 hs278 (by rw [List.length_map]; omega) (by rw [List.length_map]; omega)).mono ?_)
          rintro _ w287 ⟨C288, A290, c291, rfl, e289, hs292⟩
          rw [evs_map _ _ _ _ _ fun x hx y hy h => ix_inj (hk240 a (by simp) x hx) (hk240 b (by simp) y hy) h] at hs292 ⊢
          have hE_293 := hE_259.step e289
          have hs4_298 := hs4_245.mono e289.le
          have hs25_300 := hs25_247.mono e289.le
          have hs112_303 := hs112_250.mono e289.le
          have hs256_308 := hs256.mono e289.le
          have hg267_309 := hg267.mono e289.le
          have hs270_310 := hs270.mono e289.le
          have hs278_312 := hs278.mono e289.le
          have hg283_313 := hg283.mono e289.le
          have hs286_314 := hs286.mono e289.le
          have hH315 := e289.has
          have hS316 := hS261.step e289
          have hpl317 := (pairs_law a b 0 0).2
          refine ⟨(.inr hS316), ?_⟩
          refine FWs.call rfl 134 rfl rfl 12 #[Value.slice A276 ((b.map (ix ks236)).length) c277, Value.slice A284 ((c.map (ix ks236)).length) c285] (r_call2 Try.call12 rfl rfl rfl) ((pairs_c hH315 hs278_312 hs286_314 (by rw [List.length_map]; omega) (by rw [List.length_map]; omega)).mono ?_)
          rintro _ w318 ⟨C319, A321, c322, rfl, e320, hs323⟩
          rw [evs_map _ _ _ _ _ fun x hx y hy h => ix_inj (hk240 b (by simp) x hx) (hk240 c (by simp) y hy) h] at hs323 ⊢
          have hE_324 := hE_293.step e320
          have hs4_329 := hs4_298.mono e320.le
          have hs25_331 := hs25_300.mono e320.le
          have hs112_334 := hs112_303.mono e320.le
          have hs256_339 := hs256_308.mono e320.le
          have hg267_340 := hg267_309.mono e320.le
          have hs270_341 := hs270_310.mono e320.le
          have hg283_344 := hg283_313.mono e320.le
          have hs286_345 := hs286_314.mono e320.le
          have hs292_346 := hs292.mono e320.le
          have hH347 := e320.has
          have hS348 := hS316.step e320
          have hpl349 := (pairs_law b c 0 0).2
          refine ⟨(.inr hS348), ?_⟩
          refine FWs.call rfl 135 rfl rfl 11 #[Value.slice A290 ((pairsOf (evs a b 0 0)).length) c291, Value.slice A321 ((pairsOf (evs b c 0 0)).length) c322] (r_call2 Try.call11 rfl rfl rfl) ((Compose_c hH347 hs292_346 hs323 (by omega)).mono ?_)
          rintro _ w350 ⟨C351, A353, c354, rfl, e352, hs355⟩
          have hE_356 := hE_324.step e352
          have hs4_361 := hs4_329.mono e352.le
          have hs25_363 := hs25_331.mono e352.le
          have hs112_366 := hs112_334.mono e352.le
          have hs256_371 := hs256_339.mono e352.le
          have hg267_372 := hg267_340.mono e352.le
          have hs270_373 := hs270_341.mono e352.le
          have hg283_376 := hg283_344.mono e352.le
          have hs286_377 := hs286_345.mono e352.le
          have hH380 := e352.has
          have hS381 := hS348.step e352
          obtain ⟨ht1, ht2, ht3, ht4⟩ := triangle a b c
          generalize hcp : compS (pairsOf (evs a b 0 0)) (pairsOf (evs b c 0 0)) = p at *
          refine ⟨(.inr hS381), ?_⟩
          refine FWs.val rfl 21 rfl rfl (Value.slice A353 p.length c354) _ (r_assign) (.inr hS381) ?_
          refine FWs.nil (hK21 _ _ ?_)
          clear hK21 K21
          refine FW.seq_k fun K22 hK22 => ?_
          refine FW.seq_k fun K23 hK23 => ?_
          refine FW.regionDraw mixed (SS C351 (fun _ => True) w350.drew) [] [(0, true), (1, true), (2, true), (3, false), (4, false), (5, false), (6, false), (7, false), (8, true), (9, true), (10, true), (11, true), (12, true), (13, false), (14, false), (15, false), (16, false), (17, false), (18, false), (19, false), (20, false), (21, true), (23, true), (24, true), (25, true), (26, true), (27, true), (28, true), (29, true), (30, true), (31, true), (22, false), (32, false), (33, false)] rfl (by kernel_rfl) ?_
          have e383 : Ext w350.heap.size w350 C351 w350.drew C351 := (Ext.refl hH380).drew
          generalize w350.drew = w382 at *
          have hE_384 := hE_356.step e383
          have hH385 := e383.has
          have hS386 : SS C351 (fun _ => True) w382 w382 := SS.refl hH385
          have hle387 := Gle.refl C351
          refine FWs.take rfl 136 rfl rfl (Value.slice A353 p.length c354) hS386 (fun _ _ => r_move) ?_
          refine FWs.take rfl 137 rfl rfl (Value.slice A1 a.length c1) hS386 (fun _ _ => r_move) ?_
          refine FWs.take rfl 138 rfl rfl (Value.int .i64 ((a.length : Nat) : Int)) hS386 (fun _ _ => r_lenSl Try.underlying22 rfl) ?_
          refine FWs.val rfl 139 rfl rfl (Value.slice A3 c.length c3) _ (r_move) (.inr hS386) ?_
          refine FWs.val rfl 140 rfl rfl (Value.int .i64 ((c.length : Nat) : Int)) _ (r_lenSl Try.underlying22 rfl) (.inr hS386) ?_
          refine FWs.call rfl 141 rfl rfl 13 #[Value.slice A353 p.length c354, Value.int .i64 ((a.length : Nat) : Int), Value.int .i64 ((c.length : Nat) : Int)] (r_call3 Try.call13 rfl rfl rfl rfl) ((Right_c hH385 hs355 ht2.okP).mono ?_)
          rintro _ w388 ⟨C389, rfl, e390⟩
          have hE_391 := hE_384.step e390
          have hs4_396 := hs4_361.mono e390.le
          have hs25_398 := hs25_363.mono e390.le
          have hs112_401 := hs112_366.mono e390.le
          have hs256_406 := hs256_371.mono e390.le
          have hs270_408 := hs270_373.mono e390.le
          have hg283_411 := hg283_376.mono e390.le
          have hs286_412 := hs286_377.mono e390.le
          have hs355_415 := hs355.mono e390.le
          have hH416 := e390.has
          have hS417 := hS386.step e390
          refine ⟨(.inr hS417), ?_⟩
          refine FWs.val rfl 142 rfl rfl (Value.bool false) _ (r_not (b := true) rfl) (.inr hS417) ?_
          refine FWs.val rfl 143 rfl rfl (Value.bool false) _ (r_move) (.inr hS417) ?_
          refine FWs.take rfl 144 rfl rfl (Value.slice A353 p.length c354) hS417 (fun _ _ => r_move) ?_
          refine FWs.take rfl 145 rfl rfl (Value.int .i64 ((p.length : Nat) : Int)) hS417 (fun _ _ => r_lenSl Try.underlying36 rfl) ?_
          refine FWs.take rfl 146 rfl rfl (Value.slice A237 (([(a.map (ix ks236)), (b.map (ix ks236)), (c.map (ix ks236))]).length) c238) hS417 (fun _ _ => r_move) ?_
          refine FWs.take rfl 147 rfl rfl (ptrAt A237 ((0 : Int).toNat * 1)) hS417 (fun _ _ => r_indexAddr Try.underlying34 Try.sizeOf39 rfl rfl (hs256_406.isSome (by simp)) (by omega) (by simp)) ?_
          refine FWs.take rfl 148 rfl rfl (Value.slice A268 ((a.map (ix ks236)).length) c269) hS417 (fun _ hS' => r_loadG1 (i := 0) Try.isAgg39 hg267_372 rfl rfl hS'.has) ?_
          refine FWs.val rfl 149 rfl rfl (Value.slice A237 (([(a.map (ix ks236)), (b.map (ix ks236)), (c.map (ix ks236))]).length) c238) _ (r_move) (.inr hS417) ?_
          refine FWs.val rfl 150 rfl rfl (ptrAt A237 ((2 : Int).toNat * 1)) _ (r_indexAddr Try.underlying34 Try.sizeOf39 rfl rfl (hs256_406.isSome (by simp)) (by omega) (by simp)) (.inr hS417) ?_
          refine FWs.val rfl 151 rfl rfl (Value.slice A284 ((c.map (ix ks236)).length) c285) _ (r_loadG1 (i := 0) Try.isAgg39 hg283_411 rfl rfl hH416) (.inr hS417) ?_
          refine FWs.call rfl 152 rfl rfl 12 #[Value.slice A268 ((a.map (ix ks236)).length) c269, Value.slice A284 ((c.map (ix ks236)).length) c285] (r_call2 Try.call12 rfl rfl rfl) ((pairs_c hH416 hs270_408 hs286_412 (by rw [List.length_map]; omega) (by rw [List.length_map]; omega)).mono ?_)
          rintro _ w418 ⟨C419, A421, c422, rfl, e420, hs423⟩
          rw [evs_map _ _ _ _ _ fun x hx y hy h => ix_inj (hk240 a (by simp) x hx) (hk240 c (by simp) y hy) h] at hs423 ⊢
          have hE_424 := hE_391.step e420
          have hs4_429 := hs4_396.mono e420.le
          have hs25_431 := hs25_398.mono e420.le
          have hs112_434 := hs112_401.mono e420.le
          have hs355_448 := hs355_415.mono e420.le
          have hH449 := e420.has
          have hS450 := hS417.step e420
          have hpl451 := (pairs_law a c 0 0).2
          refine ⟨(.inr hS450), ?_⟩
          refine FWs.val rfl 153 rfl rfl (Value.int .i64 (((pairsOf (evs a c 0 0)).length : Nat) : Int)) _ (r_lenSl Try.underlying36 rfl) (.inr hS450) ?_
          refine FWs.val rfl 154 rfl rfl (Value.bool (decide ((((pairsOf (evs a c 0 0)).length : Nat) : Int) < ((p.length : Nat) : Int)))) _ (r_gtr rfl rfl) (.inr hS450) ?_
          refine FWs.val rfl 155 rfl rfl (Value.bool (decide ((((pairsOf (evs a c 0 0)).length : Nat) : Int) < ((p.length : Nat) : Int)))) _ (r_pick (t := false) rfl) (.inr hS450) ?_
          refine FWs.val rfl 156 rfl rfl (Value.bool (decide ((((pairsOf (evs a c 0 0)).length : Nat) : Int) < ((p.length : Nat) : Int)))) _ (r_move) (.inr hS450) ?_
          cases hb452 : (decide ((((pairsOf (evs a c 0 0)).length : Nat) : Int) < ((p.length : Nat) : Int))) with
          | true =>
            have hp453 : (((pairsOf (evs a c 0 0)).length : Nat) : Int) < ((p.length : Nat) : Int) := of_decide_eq_true hb452
            refine FWs.takeSkip rfl 157 rfl rfl hS450 ?_
            refine FWs.takeSkip rfl 159 rfl rfl hS450 ?_
            refine FWs.takeSkip rfl 160 rfl rfl hS450 ?_
            refine FWs.takeSkip rfl 161 rfl rfl hS450 ?_
            refine FWs.takeSkip rfl 162 rfl rfl hS450 ?_
            refine FWs.takeSkip rfl 163 rfl rfl hS450 ?_
            refine FWs.takeSkip rfl 164 rfl rfl hS450 ?_
            refine FWs.takeSkip rfl 165 rfl rfl hS450 ?_
            refine FWs.takeSkip rfl 166 rfl rfl hS450 ?_
            refine FWs.takeSkip rfl 167 rfl rfl hS450 ?_
            refine FWs.skip rfl 158 rfl rfl (.inr hS450) ?_
            refine FWs.skip rfl 168 rfl rfl (.inr hS450) ?_
            refine FWs.val rfl 169 rfl rfl (Value.bool true) _ (r_pick (t := true) rfl) (.inr hS450) ?_
            refine FWs.nil (hK23 _ _ ?_)
            clear hK23 K23
            refine FW.cond true rfl (fun _ => ?_) (fun h => nomatch h)
            refine FW.seq_k fun K24 hK24 => ?_
            refine FW.region rfl ?_
            refine FWl.val 6 rfl rfl (Value.bool false) _ (r_assign) ?_
            refine FWl.nil (hK24 _ _ ?_)
            clear hK24 K24
            refine FW.ret (thenF_ret (?_))
            refine ret_tmp (v := Value.bool false) Try.results3 (.inl rfl) rfl ?_
            exfalso; first | omega | (have := ed_tri a b c; omega) | (simp_all; done)
          | false =>
            have hp454 : ¬ ((((pairsOf (evs a c 0 0)).length : Nat) : Int) < ((p.length : Nat) : Int)) := of_decide_eq_false hb452
            refine FWs.take rfl 157 rfl rfl (Value.slice A110 ((makeS a c).length) c111) hS450 (fun _ _ => r_move) ?_
            refine FWs.take rfl 159 rfl rfl (Value.slice A1 a.length c1) hS450 (fun _ _ => r_move) ?_
            refine FWs.take rfl 160 rfl rfl (Value.int .i64 ((a.length : Nat) : Int)) hS450 (fun _ _ => r_lenSl Try.underlying22 rfl) ?_
            refine FWs.take rfl 161 rfl rfl (Value.slice A3 c.length c3) hS450 (fun _ _ => r_move) ?_
            refine FWs.take rfl 162 rfl rfl (Value.int .i64 ((c.length : Nat) : Int)) hS450 (fun _ _ => r_lenSl Try.underlying22 rfl) ?_
            refine FWs.take rfl 163 rfl rfl (Value.int .i64 (((a.length : Nat) : Int) + ((c.length : Nat) : Int))) hS450 (fun _ _ => r_addI rfl rfl (by omega) (by omega)) ?_
            refine FWs.take rfl 164 rfl rfl (Value.slice A353 p.length c354) hS450 (fun _ _ => r_move) ?_
            refine FWs.take rfl 165 rfl rfl (Value.int .i64 ((p.length : Nat) : Int)) hS450 (fun _ _ => r_lenSl Try.underlying36 rfl) ?_
            refine FWs.take rfl 166 rfl rfl (Value.int .i64 (2 * ((p.length : Nat) : Int))) hS450 (fun _ _ => r_mulI rfl rfl (by omega) (by omega)) ?_
            refine FWs.take rfl 167 rfl rfl (Value.int .i64 ((((a.length : Nat) : Int) + ((c.length : Nat) : Int)) - (2 * ((p.length : Nat) : Int)))) hS450 (fun _ _ => r_subI rfl rfl (by omega) (by omega)) ?_
            refine FWs.call rfl 158 rfl rfl 9 #[Value.slice A110 ((makeS a c).length) c111] (r_call1 Try.call9 rfl rfl) ((Changed_c hH449 hs112_434 hm123.1).mono ?_)
            rintro _ w455 ⟨C457, rfl, e456⟩
            have hE_458 := hE_424.step e456
            have hs4_463 := hs4_429.mono e456.le
            have hs25_465 := hs25_431.mono e456.le
            have hs355_482 := hs355_448.mono e456.le
            have hH484 := e456.has
            have hS485 := hS450.step e456
            refine ⟨(.inr hS485), ?_⟩
            refine FWs.val rfl 168 rfl rfl (Value.bool (decide (((((a.length : Nat) : Int) + ((c.length : Nat) : Int)) - (2 * ((p.length : Nat) : Int))) < (changed (makeS a c) : Int)))) _ (r_gtr rfl rfl) (.inr hS485) ?_
            refine FWs.val rfl 169 rfl rfl (Value.bool (decide (((((a.length : Nat) : Int) + ((c.length : Nat) : Int)) - (2 * ((p.length : Nat) : Int))) < (changed (makeS a c) : Int)))) _ (r_pick (t := false) rfl) (.inr hS485) ?_
            refine FWs.nil (hK23 _ _ ?_)
            clear hK23 K23
            refine FW.cond (decide (((((a.length : Nat) : Int) + ((c.length : Nat) : Int)) - (2 * ((p.length : Nat) : Int))) < (changed (makeS a c) : Int))) rfl (fun hc486 => ?_) (fun hc486 => ?_)
            · have hp487 : ((((a.length : Nat) : Int) + ((c.length : Nat) : Int)) - (2 * ((p.length : Nat) : Int))) < (changed (makeS a c) : Int) := of_decide_eq_true hc486
              refine FW.seq_k fun K25 hK25 => ?_
              refine FW.region rfl ?_
              refine FWl.val 6 rfl rfl (Value.bool false) _ (r_assign) ?_
              refine FWl.nil (hK25 _ _ ?_)
              clear hK25 K25
              refine FW.ret (thenF_ret (?_))
              refine ret_tmp (v := Value.bool false) Try.results3 (.inl rfl) rfl ?_
              exfalso; first | omega | (have := ed_tri a b c; omega) | (simp_all; done)
            · have hp488 : ¬ (((((a.length : Nat) : Int) + ((c.length : Nat) : Int)) - (2 * ((p.length : Nat) : Int))) < (changed (makeS a c) : Int)) := of_decide_eq_false hc486
              refine FW.skip (hK22 _ _ ?_)
              clear hK22 K22
              refine FW.seq_k fun K26 hK26 => ?_
              refine FW.seq_k fun K27 hK27 => ?_
              refine FW.region rfl ?_
              refine FWl.val 22 rfl rfl (Value.int .i64 0) _ (r_assign) ?_
              refine FWl.nil (hK27 _ _ ?_)
              clear hK27 K27
              refine FW.block ?_
              refine FW.loop_m (fun msr T w489 => ∃ (C490 : Gh) (k : Nat), Holds T [(0, Value.slice A1 a.length c1), (1, Value.slice A2 b.length c2), (2, Value.slice A3 c.length c3), (7, Value.bool r5), (8, Value.bool r15), (9, Value.bool r26), (10, Value.slice A79 ((makeS a b).length) c80), (11, Value.int .i64 0), (12, Value.slice A94 ((makeS b c).length) c95), (13, Value.int .i64 0), (14, Value.slice A110 ((makeS a c).length) c111), (15, Value.int .i64 0), (16, Value.slice A127 b.length c128), (17, Value.int .i64 0), (18, Value.slice A144 c.length c145), (19, Value.int .i64 0), (20, Value.slice A237 (([(a.map (ix ks236)), (b.map (ix ks236)), (c.map (ix ks236))]).length) c238), (21, Value.slice A353 p.length c354), (22, Value.int .i64 (k : Int)), (23, Value.tuple #[Value.slice A1 a.length c1, Value.bool r5]), (24, Value.slice A1 la.length c1), (25, Value.tuple #[Value.slice A1 a.length c1, Value.bool r5]), (26, Value.slice A1 a.length c1), (27, Value.bool r5), (28, Value.tuple #[Value.slice A2 b.length c2, Value.bool r15]), (29, Value.slice A2 lb.length c2), (30, Value.tuple #[Value.slice A2 b.length c2, Value.bool r15]), (31, Value.slice A2 b.length c2), (32, Value.bool r15), (33, Value.tuple #[Value.slice A3 c.length c3, Value.bool r26]), (34, Value.slice A3 lc.length c3), (35, Value.tuple #[Value.slice A3 c.length c3, Value.bool r26]), (36, Value.slice A3 c.length c3), (37, Value.bool r26), (38, Value.bool r5), (39, Value.bool false), (40, Value.bool false), (41, Value.bool r15), (42, Value.bool false), (43, Value.bool false), (44, Value.bool false), (45, Value.bool r26), (46, Value.bool (!r26)), (47, Value.bool (!r26)), (49, Value.tuple #[Value.slice A79 ((makeS a b).length) c80, Value.int .i64 0]), (50, Value.slice A1 a.length c1), (51, Value.slice A2 b.length c2), (52, Value.tuple #[Value.slice A79 ((makeS a b).length) c80, Value.int .i64 0]), (53, Value.slice A79 ((makeS a b).length) c80), (54, Value.int .i64 0), (55, Value.tuple #[Value.slice A94 ((makeS b c).length) c95, Value.int .i64 0]), (56, Value.slice A2 b.length c2), (57, Value.slice A3 c.length c3), (58, Value.tuple #[Value.slice A94 ((makeS b c).length) c95, Value.int .i64 0]), (59, Value.slice A94 ((makeS b c).length) c95), (60, Value.int .i64 0), (61, Value.tuple #[Value.slice A110 ((makeS a c).length) c111, Value.int .i64 0]), (62, Value.slice A1 a.length c1), (63, Value.slice A3 c.length c3), (64, Value.tuple #[Value.slice A110 ((makeS a c).length) c111, Value.int .i64 0]), (65, Value.slice A110 ((makeS a c).length) c111), (66, Value.int .i64 0), (67, Value.tuple #[Value.slice A127 b.length c128, Value.int .i64 0]), (68, Value.slice A79 ((makeS a b).length) c80), (69, Value.slice A1 a.length c1), (70, Value.tuple #[Value.slice A127 b.length c128, Value.int .i64 0]), (71, Value.slice A127 b.length c128), (72, Value.int .i64 0), (73, Value.tuple #[Value.slice A144 c.length c145, Value.int .i64 0]), (74, Value.slice A94 ((makeS b c).length) c95), (75, Value.slice A127 b.length c128), (76, Value.tuple #[Value.slice A144 c.length c145, Value.int .i64 0]), (77, Value.slice A144 c.length c145), (78, Value.int .i64 0), (79, Value.int .i64 0), (80, Value.bool false), (81, Value.bool false), (82, Value.int .i64 0), (83, Value.bool false), (84, Value.bool false), (85, Value.bool false), (86, Value.int .i64 0), (87, Value.bool false), (88, Value.bool false), (89, Value.bool false), (90, Value.int .i64 0), (91, Value.bool false), (92, Value.bool false), (93, Value.bool false), (94, Value.int .i64 0), (95, Value.bool false), (96, Value.bool false), (97, Value.bool false), (98, Value.slice A144 c.length c145), (99, Value.slice A3 c.length c3), (100, Value.bool true), (101, Value.bool false), (102, Value.bool false), (103, Value.bool false), (104, Value.slice A110 ((makeS a c).length) c111), (105, Value.int .i64 (changed (makeS a c) : Int)), (106, Value.slice A79 ((makeS a b).length) c80), (107, Value.int .i64 (changed (makeS a b) : Int)), (108, Value.slice A94 ((makeS b c).length) c95), (109, Value.int .i64 (changed (makeS b c) : Int)), (110, Value.int .i64 ((changed (makeS a b) : Int) + (changed (makeS b c) : Int))), (111, Value.bool (decide (((changed (makeS a b) : Int) + (changed (makeS b c) : Int)) < (changed (makeS a c) : Int)))), (112, Value.bool (decide (((changed (makeS a b) : Int) + (changed (makeS b c) : Int)) < (changed (makeS a c) : Int)))), (113, Value.slice A1 a.length c1), (114, Value.slice A2 b.length c2), (115, Value.slice A3 c.length c3), (116, Value.slice A214 (([a, b, c]).length) 3), (117, Value.slice A237 (([(a.map (ix ks236)), (b.map (ix ks236)), (c.map (ix ks236))]).length) c238), (118, Value.slice A237 (([(a.map (ix ks236)), (b.map (ix ks236)), (c.map (ix ks236))]).length) c238), (119, Value.int .i64 3), (120, Value.bool false), (121, Value.slice A237 (([(a.map (ix ks236)), (b.map (ix ks236)), (c.map (ix ks236))]).length) c238), (122, ptrAt A237 ((0 : Int).toNat * 1)), (123, Value.slice A268 ((a.map (ix ks236)).length) c269), (124, Value.slice A237 (([(a.map (ix ks236)), (b.map (ix ks236)), (c.map (ix ks236))]).length) c238), (125, ptrAt A237 ((1 : Int).toNat * 1)), (126, Value.slice A276 ((b.map (ix ks236)).length) c277), (127, Value.slice A290 ((pairsOf (evs a b 0 0)).length) c291), (128, Value.slice A237 (([(a.map (ix ks236)), (b.map (ix ks236)), (c.map (ix ks236))]).length) c238), (129, ptrAt A237 ((1 : Int).toNat * 1)), (130, Value.slice A276 ((b.map (ix ks236)).length) c277), (131, Value.slice A237 (([(a.map (ix ks236)), (b.map (ix ks236)), (c.map (ix ks236))]).length) c238), (132, ptrAt A237 ((2 : Int).toNat * 1)), (133, Value.slice A284 ((c.map (ix ks236)).length) c285), (134, Value.slice A321 ((pairsOf (evs b c 0 0)).length) c322), (135, Value.slice A353 p.length c354), (136, Value.slice A353 p.length c354), (137, Value.slice A1 a.length c1), (138, Value.int .i64 ((a.length : Nat) : Int)), (139, Value.slice A3 c.length c3), (140, Value.int .i64 ((c.length : Nat) : Int)), (141, Value.bool true), (142, Value.bool false), (143, Value.bool false), (144, Value.slice A353 p.length c354), (145, Value.int .i64 ((p.length : Nat) : Int)), (146, Value.slice A237 (([(a.map (ix ks236)), (b.map (ix ks236)), (c.map (ix ks236))]).length) c238), (147, ptrAt A237 ((0 : Int).toNat * 1)), (148, Value.slice A268 ((a.map (ix ks236)).length) c269), (149, Value.slice A237 (([(a.map (ix ks236)), (b.map (ix ks236)), (c.map (ix ks236))]).length) c238), (150, ptrAt A237 ((2 : Int).toNat * 1)), (151, Value.slice A284 ((c.map (ix ks236)).length) c285), (152, Value.slice A421 ((pairsOf (evs a c 0 0)).length) c422), (153, Value.int .i64 (((pairsOf (evs a c 0 0)).length : Nat) : Int)), (154, Value.bool false), (155, Value.bool false), (156, Value.bool false), (157, Value.slice A110 ((makeS a c).length) c111), (158, Value.int .i64 (changed (makeS a c) : Int)), (159, Value.slice A1 a.length c1), (160, Value.int .i64 ((a.length : Nat) : Int)), (161, Value.slice A3 c.length c3), (162, Value.int .i64 ((c.length : Nat) : Int)), (163, Value.int .i64 (((a.length : Nat) : Int) + ((c.length : Nat) : Int))), (164, Value.slice A353 p.length c354), (165, Value.int .i64 ((p.length : Nat) : Int)), (166, Value.int .i64 (2 * ((p.length : Nat) : Int))), (167, Value.int .i64 ((((a.length : Nat) : Int) + ((c.length : Nat) : Int)) - (2 * ((p.length : Nat) : Int)))), (168, Value.bool (decide (((((a.length : Nat) : Int) + ((c.length : Nat) : Int)) - (2 * ((p.length : Nat) : Int))) < (changed (makeS a c) : Int)))), (169, Value.bool (decide (((((a.length : Nat) : Int) + ((c.length : Nat) : Int)) - (2 * ((p.length : Nat) : Int))) < (changed (makeS a c) : Int))))] ∧ Ext (w455.heap.size) w455 C457 w489 C490 ∧ (k ≤ p.length) ∧ msr = p.length - k) (p.length - 0) ?_ ?_
              · exact ⟨C457, 0, ⟨rfl, rfl, rfl, rfl, rfl, rfl, rfl, rfl, rfl, rfl, rfl, rfl, rfl, rfl, rfl, rfl, rfl, rfl, rfl, rfl, rfl, rfl, rfl, rfl, rfl, rfl, rfl, rfl, rfl, rfl, rfl, rfl, rfl, rfl, rfl, rfl, rfl, rfl, rfl, rfl, rfl, rfl, rfl, rfl, rfl, rfl, rfl, rfl, rfl, rfl, rfl, rfl, rfl, rfl, rfl, rfl, rfl, rfl, rfl, rfl, rfl, rfl, rfl, rfl, rfl, rfl, rfl, rfl, rfl, rfl, rfl, rfl, rfl, rfl, rfl, rfl, rfl, rfl, rfl, rfl, rfl, rfl, rfl, rfl, rfl, rfl, rfl, rfl, rfl, rfl, rfl, rfl, rfl, rfl, rfl, rfl, rfl, rfl, rfl, rfl, rfl, rfl, rfl, rfl, rfl, rfl, rfl, rfl, rfl, rfl, rfl, rfl, rfl, rfl, rfl, rfl, rfl, rfl, rfl, rfl, rfl, rfl, rfl, rfl, rfl, rfl, rfl, rfl, rfl, rfl, rfl, rfl, rfl, rfl, rfl, rfl, rfl, rfl, rfl, rfl, rfl, rfl, rfl, rfl, rfl, rfl, rfl, rfl, rfl, rfl, rfl, rfl, rfl, rfl, rfl, rfl, rfl, rfl, rfl, rfl, rfl, rfl, rfl, rfl, rfl, trivial⟩, Ext.refl hH484, Nat.zero_le _, rfl⟩
              · rintro msr T w489 ⟨C490, k, hT, hL1, hk, rfl⟩
                refine FW.frame hT fun B1 => ?_
                have hE_491 := hE_458.step hL1
                have hs4_495 := hs4_463.mono hL1.le
                have hs25_497 := hs25_465.mono hL1.le
                have hs355_514 := hs355_482.mono hL1.le
                have hH516 := hL1.has
                refine FW.seq_k fun K28 hK28 => ?_
                refine FW.seq_k fun K29 hK29 => ?_
                refine FW.region rfl ?_
                refine FWl.val 170 rfl rfl (Value.int .i64 (k : Int)) _ (r_move) ?_
                refine FWl.val 171 rfl rfl (Value.slice A353 p.length c354) _ (r_move) ?_
                refine FWl.val 172 rfl rfl (Value.int .i64 ((p.length : Nat) : Int)) _ (r_lenSl Try.underlying36 rfl) ?_
                refine FWl.val 173 rfl rfl (Value.bool (decide ((k : Int) < ((p.length : Nat) : Int)))) _ (r_lss rfl rfl) ?_
                refine FWl.nil (hK29 _ _ ?_)
                clear hK29 K29
                refine FW.cond (decide ((k : Int) < ((p.length : Nat) : Int))) rfl (fun hc517 => ?_) (fun hc517 => ?_)
                · have hp518 : (k : Int) < ((p.length : Nat) : Int) := of_decide_eq_true hc517
                  refine FW.skip (hK28 _ _ ?_)
                  clear hK28 K28
                  refine FW.seq_k fun K30 hK30 => ?_
                  refine FW.block ?_
                  refine FW.seq_k fun K31 hK31 => ?_
                  refine FW.regionDraw mixed (SS C490 (fun _ => True) w489.drew) [] [(0, true), (1, false), (2, false), (3, false), (4, false), (5, false), (6, false), (7, true), (8, true), (9, true), (10, true), (11, true), (12, false), (13, false), (14, false), (15, false), (16, false), (17, true), (18, false), (19, false), (20, false), (21, false), (22, false), (23, false), (24, false), (25, true), (26, true), (27, true), (28, true), (29, true), (30, false), (31, false), (32, false), (33, false), (34, false), (35, true), (36, true), (37, true), (38, true), (39, true), (40, true), (41, true), (42, true), (43, true), (44, true), (45, false), (46, false), (47, false), (48, false), (49, false), (50, false), (51, false), (52, false)] rfl (by kernel_rfl) ?_
                  have e520 : Ext w489.heap.size w489 C490 w489.drew C490 := (Ext.refl hH516).drew
                  generalize w489.drew = w519 at *
                  have hL1_522 := hL1.step e520
                  have hH523 := e520.has
                  have hS524 : SS C490 (fun _ => True) w519 w519 := SS.refl hH523
                  have hle525 := Gle.refl C490
                  refine FWs.take rfl 176 rfl rfl (Value.slice A353 p.length c354) hS524 (fun _ _ => r_move) ?_
                  refine FWs.val rfl 177 rfl rfl (Value.int .i64 (k : Int)) _ (r_move) (.inr hS524) ?_
                  obtain ⟨x526, hx527⟩ := get_some (xs := p) (j := k) (by omega)
                  obtain ⟨cs528, hr529, hg530⟩ := hs355_514.at_ _ _ hx527
                  obtain rfl := hr529
                  obtain ⟨hq1, hq2, hq3, hq4, hq5⟩ := ht2.mem _ (List.mem_of_getElem? hx527)
                  simp only [Int.sub_zero] at hq5
                  refine FWs.val rfl 178 rfl rfl (ptrAt A353 (((k : Int)).toNat * 2)) _ (r_indexAddr Try.underlying36 Try.sizeOf41 rfl rfl (hs355_514.isSome (by omega)) (by omega) (by omega)) (.inr hS524) ?_
                  refine FWs.val rfl 179 rfl rfl (ptrAt A353 (((k : Int)).toNat * 2)) _ (r_indexArrAt Try.underlying41 Try.sizeOf3 (hs355_514.isSome (by omega)) rfl rfl (by omega) (by omega) rfl) (.inr hS524) ?_
                  refine FWs.val rfl 180 rfl rfl (Value.int .i64 x526.1) _ (r_loadG1 (i := 0) Try.isAgg3 hg530 rfl rfl hH523) (.inr hS524) ?_
                  refine FWs.val rfl 181 rfl rfl (Value.bool (decide (x526.1 < 0))) _ (r_lss rfl rfl) (.inr hS524) ?_
                  refine FWs.val rfl 182 rfl rfl (Value.bool (decide (x526.1 < 0))) _ (r_move) (.inr hS524) ?_
                  cases hb531 : (decide (x526.1 < 0)) with
                  | true =>
                    have hp532 : x526.1 < 0 := of_decide_eq_true hb531
                    refine FWs.takeSkip rfl 183 rfl rfl hS524 ?_
                    refine FWs.takeSkip rfl 184 rfl rfl hS524 ?_
                    refine FWs.takeSkip rfl 185 rfl rfl hS524 ?_
                    refine FWs.takeSkip rfl 186 rfl rfl hS524 ?_
                    refine FWs.takeSkip rfl 187 rfl rfl hS524 ?_
                    refine FWs.skip rfl 188 rfl rfl (.inr hS524) ?_
                    refine FWs.skip rfl 189 rfl rfl (.inr hS524) ?_
                    refine FWs.skip rfl 190 rfl rfl (.inr hS524) ?_
                    refine FWs.val rfl 191 rfl rfl (Value.bool true) _ (r_pick (t := true) rfl) (.inr hS524) ?_
                    refine FWs.val rfl 192 rfl rfl (Value.bool true) _ (r_move) (.inr hS524) ?_
                    refine FWs.takeSkip rfl 193 rfl rfl hS524 ?_
                    refine FWs.skip rfl 194 rfl rfl (.inr hS524) ?_
                    refine FWs.skip rfl 195 rfl rfl (.inr hS524) ?_
                    refine FWs.skip rfl 196 rfl rfl (.inr hS524) ?_
                    refine FWs.skip rfl 197 rfl rfl (.inr hS524) ?_
                    refine FWs.skip rfl 198 rfl rfl (.inr hS524) ?_
                    refine FWs.val rfl 199 rfl rfl (Value.bool true) _ (r_pick (t := true) rfl) (.inr hS524) ?_
                    refine FWs.val rfl 200 rfl rfl (Value.bool true) _ (r_move) (.inr hS524) ?_
                    refine FWs.takeSkip rfl 201 rfl rfl hS524 ?_
                    refine FWs.takeSkip rfl 202 rfl rfl hS524 ?_
                    refine FWs.takeSkip rfl 203 rfl rfl hS524 ?_
                    refine FWs.takeSkip rfl 204 rfl rfl hS524 ?_
                    refine FWs.takeSkip rfl 205 rfl rfl hS524 ?_
                    refine FWs.skip rfl 206 rfl rfl (.inr hS524) ?_
                    refine FWs.skip rfl 207 rfl rfl (.inr hS524) ?_
                    refine FWs.skip rfl 208 rfl rfl (.inr hS524) ?_
                    refine FWs.val rfl 209 rfl rfl (Value.bool true) _ (r_pick (t := true) rfl) (.inr hS524) ?_
                    refine FWs.val rfl 210 rfl rfl (Value.bool true) _ (r_move) (.inr hS524) ?_
                    refine FWs.takeSkip rfl 211 rfl rfl hS524 ?_
                    refine FWs.takeSkip rfl 212 rfl rfl hS524 ?_
                    refine FWs.takeSkip rfl 213 rfl rfl hS524 ?_
                    refine FWs.takeSkip rfl 214 rfl rfl hS524 ?_
                    refine FWs.takeSkip rfl 215 rfl rfl hS524 ?_
                    refine FWs.takeSkip rfl 216 rfl rfl hS524 ?_
                    refine FWs.takeSkip rfl 217 rfl rfl hS524 ?_
                    refine FWs.takeSkip rfl 218 rfl rfl hS524 ?_
                    refine FWs.takeSkip rfl 219 rfl rfl hS524 ?_
                    refine FWs.takeSkip rfl 220 rfl rfl hS524 ?_
                    refine FWs.skip rfl 221 rfl rfl (.inr hS524) ?_
                    refine FWs.skip rfl 222 rfl rfl (.inr hS524) ?_
                    refine FWs.skip rfl 223 rfl rfl (.inr hS524) ?_
                    refine FWs.skip rfl 224 rfl rfl (.inr hS524) ?_
                    refine FWs.skip rfl 225 rfl rfl (.inr hS524) ?_
                    refine FWs.skip rfl 226 rfl rfl (.inr hS524) ?_
                    refine FWs.skip rfl 227 rfl rfl (.inr hS524) ?_
                    refine FWs.val rfl 228 rfl rfl (Value.bool true) _ (r_pick (t := true) rfl) (.inr hS524) ?_
                    refine FWs.nil (hK31 _ _ ?_)
                    clear hK31 K31
                    refine FW.cond true rfl (fun _ => ?_) (fun h => nomatch h)
                    refine FW.seq_k fun K32 hK32 => ?_
                    refine FW.region rfl ?_
                    refine FWl.val 6 rfl rfl (Value.bool false) _ (r_assign) ?_
                    refine FWl.nil (hK32 _ _ ?_)
                    clear hK32 K32
                    refine FW.ret (inBlockF_ret (thenF_ret (thenF_ret (inBlockF_ret (thenF_ret (?_))))))
                    refine ret_tmp (v := Value.bool false) Try.results3 (.inl rfl) rfl ?_
                    exfalso; first | omega | (have := ed_tri a b c; omega) | (simp_all; done)
                  | false =>
                    have hp533 : ¬ (x526.1 < 0) := of_decide_eq_false hb531
                    refine FWs.take rfl 183 rfl rfl (Value.slice A353 p.length c354) hS524 (fun _ _ => r_move) ?_
                    refine FWs.take rfl 184 rfl rfl (Value.int .i64 (k : Int)) hS524 (fun _ _ => r_move) ?_
                    refine FWs.take rfl 185 rfl rfl (ptrAt A353 (((k : Int)).toNat * 2)) hS524 (fun _ _ => r_indexAddr Try.underlying36 Try.sizeOf41 rfl rfl (hs355_514.isSome (by omega)) (by omega) (by omega)) ?_
                    refine FWs.take rfl 186 rfl rfl (ptrAt A353 (((k : Int)).toNat * 2)) hS524 (fun _ _ => r_indexArrAt Try.underlying41 Try.sizeOf3 (hs355_514.isSome (by omega)) rfl rfl (by omega) (by omega) rfl) ?_
                    refine FWs.take rfl 187 rfl rfl (Value.int .i64 x526.1) hS524 (fun _ hS' => r_loadG1 (i := 0) Try.isAgg3 hg530 rfl rfl hS'.has) ?_
                    refine FWs.val rfl 188 rfl rfl (Value.slice A1 a.length c1) _ (r_move) (.inr hS524) ?_
                    refine FWs.val rfl 189 rfl rfl (Value.int .i64 ((a.length : Nat) : Int)) _ (r_lenSl Try.underlying22 rfl) (.inr hS524) ?_
                    refine FWs.val rfl 190 rfl rfl (Value.bool (decide (((a.length : Nat) : Int) ≤ x526.1))) _ (r_geq rfl rfl) (.inr hS524) ?_
                    refine FWs.val rfl 191 rfl rfl (Value.bool (decide (((a.length : Nat) : Int) ≤ x526.1))) _ (r_pick (t := false) rfl) (.inr hS524) ?_
                    refine FWs.val rfl 192 rfl rfl (Value.bool (decide (((a.length : Nat) : Int) ≤ x526.1))) _ (r_move) (.inr hS524) ?_
                    cases hb534 : (decide (((a.length : Nat) : Int) ≤ x526.1)) with
                    | true =>
                      have hp535 : ((a.length : Nat) : Int) ≤ x526.1 := of_decide_eq_true hb534
                      refine FWs.takeSkip rfl 193 rfl rfl hS524 ?_
                      refine FWs.skip rfl 194 rfl rfl (.inr hS524) ?_
                      refine FWs.skip rfl 195 rfl rfl (.inr hS524) ?_
                      refine FWs.skip rfl 196 rfl rfl (.inr hS524) ?_
                      refine FWs.skip rfl 197 rfl rfl (.inr hS524) ?_
                      refine FWs.skip rfl 198 rfl rfl (.inr hS524) ?_
                      refine FWs.val rfl 199 rfl rfl (Value.bool true) _ (r_pick (t := true) rfl) (.inr hS524) ?_
                      refine FWs.val rfl 200 rfl rfl (Value.bool true) _ (r_move) (.inr hS524) ?_
                      refine FWs.takeSkip rfl 201 rfl rfl hS524 ?_
                      refine FWs.takeSkip rfl 202 rfl rfl hS524 ?_
                      refine FWs.takeSkip rfl 203 rfl rfl hS524 ?_
                      refine FWs.takeSkip rfl 204 rfl rfl hS524 ?_
                      refine FWs.takeSkip rfl 205 rfl rfl hS524 ?_
                      refine FWs.skip rfl 206 rfl rfl (.inr hS524) ?_
                      refine FWs.skip rfl 207 rfl rfl (.inr hS524) ?_
                      refine FWs.skip rfl 208 rfl rfl (.inr hS524) ?_
                      refine FWs.val rfl 209 rfl rfl (Value.bool true) _ (r_pick (t := true) rfl) (.inr hS524) ?_
                      refine FWs.val rfl 210 rfl rfl (Value.bool true) _ (r_move) (.inr hS524) ?_
                      refine FWs.takeSkip rfl 211 rfl rfl hS524 ?_
                      refine FWs.takeSkip rfl 212 rfl rfl hS524 ?_
                      refine FWs.takeSkip rfl 213 rfl rfl hS524 ?_
                      refine FWs.takeSkip rfl 214 rfl rfl hS524 ?_
                      refine FWs.takeSkip rfl 215 rfl rfl hS524 ?_
                      refine FWs.takeSkip rfl 216 rfl rfl hS524 ?_
                      refine FWs.takeSkip rfl 217 rfl rfl hS524 ?_
                      refine FWs.takeSkip rfl 218 rfl rfl hS524 ?_
                      refine FWs.takeSkip rfl 219 rfl rfl hS524 ?_
                      refine FWs.takeSkip rfl 220 rfl rfl hS524 ?_
                      refine FWs.skip rfl 221 rfl rfl (.inr hS524) ?_
                      refine FWs.skip rfl 222 rfl rfl (.inr hS524) ?_
                      refine FWs.skip rfl 223 rfl rfl (.inr hS524) ?_
                      refine FWs.skip rfl 224 rfl rfl (.inr hS524) ?_
                      refine FWs.skip rfl 225 rfl rfl (.inr hS524) ?_
                      refine FWs.skip rfl 226 rfl rfl (.inr hS524) ?_
                      refine FWs.skip rfl 227 rfl rfl (.inr hS524) ?_
                      refine FWs.val rfl 228 rfl rfl (Value.bool true) _ (r_pick (t := true) rfl) (.inr hS524) ?_
                      refine FWs.nil (hK31 _ _ ?_)
                      clear hK31 K31
                      refine FW.cond true rfl (fun _ => ?_) (fun h => nomatch h)
                      refine FW.seq_k fun K33 hK33 => ?_
                      refine FW.region rfl ?_
                      refine FWl.val 6 rfl rfl (Value.bool false) _ (r_assign) ?_
                      refine FWl.nil (hK33 _ _ ?_)
                      clear hK33 K33
                      refine FW.ret (inBlockF_ret (thenF_ret (thenF_ret (inBlockF_ret (thenF_ret (?_))))))
                      refine ret_tmp (v := Value.bool false) Try.results3 (.inl rfl) rfl ?_
                      exfalso; first | omega | (have := ed_tri a b c; omega) | (simp_all; done)
                    | false =>
                      have hp536 : ¬ (((a.length : Nat) : Int) ≤ x526.1) := of_decide_eq_false hb534
                      refine FWs.take rfl 193 rfl rfl (Value.slice A353 p.length c354) hS524 (fun _ _ => r_move) ?_
                      refine FWs.val rfl 194 rfl rfl (Value.int .i64 (k : Int)) _ (r_move) (.inr hS524) ?_
                      refine FWs.val rfl 195 rfl rfl (ptrAt A353 (((k : Int)).toNat * 2)) _ (r_indexAddr Try.underlying36 Try.sizeOf41 rfl rfl (hs355_514.isSome (by omega)) (by omega) (by omega)) (.inr hS524) ?_
                      refine FWs.val rfl 196 rfl rfl (ptrAt A353 (((k : Int)).toNat * 2 + 1)) _ (r_indexArrAt Try.underlying41 Try.sizeOf3 (hs355_514.isSome (by omega)) rfl rfl (by omega) (by omega) rfl) (.inr hS524) ?_
                      refine FWs.val rfl 197 rfl rfl (Value.int .i64 x526.2) _ (r_loadG1 (i := 1) Try.isAgg3 hg530 rfl rfl hH523) (.inr hS524) ?_
                      refine FWs.val rfl 198 rfl rfl (Value.bool (decide (x526.2 < 0))) _ (r_lss rfl rfl) (.inr hS524) ?_
                      refine FWs.val rfl 199 rfl rfl (Value.bool (decide (x526.2 < 0))) _ (r_pick (t := false) rfl) (.inr hS524) ?_
                      refine FWs.val rfl 200 rfl rfl (Value.bool (decide (x526.2 < 0))) _ (r_move) (.inr hS524) ?_
                      cases hb537 : (decide (x526.2 < 0)) with
                      | true =>
                        have hp538 : x526.2 < 0 := of_decide_eq_true hb537
                        refine FWs.takeSkip rfl 201 rfl rfl hS524 ?_
                        refine FWs.takeSkip rfl 202 rfl rfl hS524 ?_
                        refine FWs.takeSkip rfl 203 rfl rfl hS524 ?_
                        refine FWs.takeSkip rfl 204 rfl rfl hS524 ?_
                        refine FWs.takeSkip rfl 205 rfl rfl hS524 ?_
                        refine FWs.skip rfl 206 rfl rfl (.inr hS524) ?_
                        refine FWs.skip rfl 207 rfl rfl (.inr hS524) ?_
                        refine FWs.skip rfl 208 rfl rfl (.inr hS524) ?_
                        refine FWs.val rfl 209 rfl rfl (Value.bool true) _ (r_pick (t := true) rfl) (.inr hS524) ?_
                        refine FWs.val rfl 210 rfl rfl (Value.bool true) _ (r_move) (.inr hS524) ?_
                        refine FWs.takeSkip rfl 211 rfl rfl hS524 ?_
                        refine FWs.takeSkip rfl 212 rfl rfl hS524 ?_
                        refine FWs.takeSkip rfl 213 rfl rfl hS524 ?_
                        refine FWs.takeSkip rfl 214 rfl rfl hS524 ?_
                        refine FWs.takeSkip rfl 215 rfl rfl hS524 ?_
                        refine FWs.takeSkip rfl 216 rfl rfl hS524 ?_
                        refine FWs.takeSkip rfl 217 rfl rfl hS524 ?_
                        refine FWs.takeSkip rfl 218 rfl rfl hS524 ?_
                        refine FWs.takeSkip rfl 219 rfl rfl hS524 ?_
                        refine FWs.takeSkip rfl 220 rfl rfl hS524 ?_
                        refine FWs.skip rfl 221 rfl rfl (.inr hS524) ?_
                        refine FWs.skip rfl 222 rfl rfl (.inr hS524) ?_
                        refine FWs.skip rfl 223 rfl rfl (.inr hS524) ?_
                        refine FWs.skip rfl 224 rfl rfl (.inr hS524) ?_
                        refine FWs.skip rfl 225 rfl rfl (.inr hS524) ?_
                        refine FWs.skip rfl 226 rfl rfl (.inr hS524) ?_
                        refine FWs.skip rfl 227 rfl rfl (.inr hS524) ?_
                        refine FWs.val rfl 228 rfl rfl (Value.bool true) _ (r_pick (t := true) rfl) (.inr hS524) ?_
                        refine FWs.nil (hK31 _ _ ?_)
                        clear hK31 K31
                        refine FW.cond true rfl (fun _ => ?_) (fun h => nomatch h)
                        refine FW.seq_k fun K34 hK34 => ?_
                        refine FW.region rfl ?_
                        refine FWl.val 6 rfl rfl (Value.bool false) _ (r_assign) ?_
                        refine FWl.nil (hK34 _ _ ?_)
                        clear hK34 K34
                        refine FW.ret (inBlockF_ret (thenF_ret (thenF_ret (inBlockF_ret (thenF_ret (?_))))))
                        refine ret_tmp (v := Value.bool false) Try.results3 (.inl rfl) rfl ?_
                        exfalso; first | omega | (have := ed_tri a b c; omega) | (simp_all; done)
                      | false =>
                        have hp539 : ¬ (x526.2 < 0) := of_decide_eq_false hb537
                        refine FWs.take rfl 201 rfl rfl (Value.slice A353 p.length c354) hS524 (fun _ _ => r_move) ?_
                        refine FWs.take rfl 202 rfl rfl (Value.int .i64 (k : Int)) hS524 (fun _ _ => r_move) ?_
                        refine FWs.take rfl 203 rfl rfl (ptrAt A353 (((k : Int)).toNat * 2)) hS524 (fun _ _ => r_indexAddr Try.underlying36 Try.sizeOf41 rfl rfl (hs355_514.isSome (by omega)) (by omega) (by omega)) ?_
                        refine FWs.take rfl 204 rfl rfl (ptrAt A353 (((k : Int)).toNat * 2 + 1)) hS524 (fun _ _ => r_indexArrAt Try.underlying41 Try.sizeOf3 (hs355_514.isSome (by omega)) rfl rfl (by omega) (by omega) rfl) ?_
                        refine FWs.take rfl 205 rfl rfl (Value.int .i64 x526.2) hS524 (fun _ hS' => r_loadG1 (i := 1) Try.isAgg3 hg530 rfl rfl hS'.has) ?_
                        refine FWs.val rfl 206 rfl rfl (Value.slice A3 c.length c3) _ (r_move) (.inr hS524) ?_
                        refine FWs.val rfl 207 rfl rfl (Value.int .i64 ((c.length : Nat) : Int)) _ (r_lenSl Try.underlying22 rfl) (.inr hS524) ?_
                        refine FWs.val rfl 208 rfl rfl (Value.bool (decide (((c.length : Nat) : Int) ≤ x526.2))) _ (r_geq rfl rfl) (.inr hS524) ?_
                        refine FWs.val rfl 209 rfl rfl (Value.bool (decide (((c.length : Nat) : Int) ≤ x526.2))) _ (r_pick (t := false) rfl) (.inr hS524) ?_
                        refine FWs.val rfl 210 rfl rfl (Value.bool (decide (((c.length : Nat) : Int) ≤ x526.2))) _ (r_move) (.inr hS524) ?_
                        cases hb540 : (decide (((c.length : Nat) : Int) ≤ x526.2)) with
                        | true =>
                          have hp541 : ((c.length : Nat) : Int) ≤ x526.2 := of_decide_eq_true hb540
                          refine FWs.takeSkip rfl 211 rfl rfl hS524 ?_
                          refine FWs.takeSkip rfl 212 rfl rfl hS524 ?_
                          refine FWs.takeSkip rfl 213 rfl rfl hS524 ?_
                          refine FWs.takeSkip rfl 214 rfl rfl hS524 ?_
                          refine FWs.takeSkip rfl 215 rfl rfl hS524 ?_
                          refine FWs.takeSkip rfl 216 rfl rfl hS524 ?_
                          refine FWs.takeSkip rfl 217 rfl rfl hS524 ?_
                          refine FWs.takeSkip rfl 218 rfl rfl hS524 ?_
                          refine FWs.takeSkip rfl 219 rfl rfl hS524 ?_
                          refine FWs.takeSkip rfl 220 rfl rfl hS524 ?_
                          refine FWs.skip rfl 221 rfl rfl (.inr hS524) ?_
                          refine FWs.skip rfl 222 rfl rfl (.inr hS524) ?_
                          refine FWs.skip rfl 223 rfl rfl (.inr hS524) ?_
                          refine FWs.skip rfl 224 rfl rfl (.inr hS524) ?_
                          refine FWs.skip rfl 225 rfl rfl (.inr hS524) ?_
                          refine FWs.skip rfl 226 rfl rfl (.inr hS524) ?_
                          refine FWs.skip rfl 227 rfl rfl (.inr hS524) ?_
                          refine FWs.val rfl 228 rfl rfl (Value.bool true) _ (r_pick (t := true) rfl) (.inr hS524) ?_
                          refine FWs.nil (hK31 _ _ ?_)
                          clear hK31 K31
                          refine FW.cond true rfl (fun _ => ?_) (fun h => nomatch h)
                          refine FW.seq_k fun K35 hK35 => ?_
                          refine FW.region rfl ?_
                          refine FWl.val 6 rfl rfl (Value.bool false) _ (r_assign) ?_
                          refine FWl.nil (hK35 _ _ ?_)
                          clear hK35 K35
                          refine FW.ret (inBlockF_ret (thenF_ret (thenF_ret (inBlockF_ret (thenF_ret (?_))))))
                          refine ret_tmp (v := Value.bool false) Try.results3 (.inl rfl) rfl ?_
                          exfalso; first | omega | (have := ed_tri a b c; omega) | (simp_all; done)
                        | false =>
                          have hp542 : ¬ (((c.length : Nat) : Int) ≤ x526.2) := of_decide_eq_false hb540
                          refine FWs.take rfl 211 rfl rfl (Value.slice A1 a.length c1) hS524 (fun _ _ => r_move) ?_
                          refine FWs.take rfl 212 rfl rfl (Value.slice A353 p.length c354) hS524 (fun _ _ => r_move) ?_
                          refine FWs.take rfl 213 rfl rfl (Value.int .i64 (k : Int)) hS524 (fun _ _ => r_move) ?_
                          refine FWs.take rfl 214 rfl rfl (ptrAt A353 (((k : Int)).toNat * 2)) hS524 (fun _ _ => r_indexAddr Try.underlying36 Try.sizeOf41 rfl rfl (hs355_514.isSome (by omega)) (by omega) (by omega)) ?_
                          refine FWs.take rfl 215 rfl rfl (ptrAt A353 (((k : Int)).toNat * 2)) hS524 (fun _ _ => r_indexArrAt Try.underlying41 Try.sizeOf3 (hs355_514.isSome (by omega)) rfl rfl (by omega) (by omega) rfl) ?_
                          refine FWs.take rfl 216 rfl rfl (Value.int .i64 x526.1) hS524 (fun _ hS' => r_loadG1 (i := 0) Try.isAgg3 hg530 rfl rfl hS'.has) ?_
                          obtain ⟨x543, hx544⟩ := get_some (xs := a) (j := (x526.1).toNat) (by omega)
                          obtain ⟨cs545, hr546, hg547⟩ := hs4_495.at_ _ _ hx544
                          obtain rfl := hr546
                          refine FWs.take rfl 217 rfl rfl (ptrAt A1 ((x526.1).toNat * 2)) hS524 (fun _ _ => r_indexAddr Try.underlying22 Try.sizeOf43 rfl rfl (hs4_495.isSome (by omega)) (by omega) (by omega)) ?_
                          refine FWs.take rfl 218 rfl rfl (Value.agg #[Value.string x543.text, Value.bool x543.bare]) hS524 (fun _ hS' => r_loadGN Try.isAgg43 Try.sizeOf43 hg547 rfl hS'.has) ?_
                          refine FWs.take rfl 219 rfl rfl (Value.slice A3 c.length c3) hS524 (fun _ _ => r_move) ?_
                          refine FWs.take rfl 220 rfl rfl (Value.slice A353 p.length c354) hS524 (fun _ _ => r_move) ?_
                          refine FWs.val rfl 221 rfl rfl (Value.int .i64 (k : Int)) _ (r_move) (.inr hS524) ?_
                          refine FWs.val rfl 222 rfl rfl (ptrAt A353 (((k : Int)).toNat * 2)) _ (r_indexAddr Try.underlying36 Try.sizeOf41 rfl rfl (hs355_514.isSome (by omega)) (by omega) (by omega)) (.inr hS524) ?_
                          refine FWs.val rfl 223 rfl rfl (ptrAt A353 (((k : Int)).toNat * 2 + 1)) _ (r_indexArrAt Try.underlying41 Try.sizeOf3 (hs355_514.isSome (by omega)) rfl rfl (by omega) (by omega) rfl) (.inr hS524) ?_
                          refine FWs.val rfl 224 rfl rfl (Value.int .i64 x526.2) _ (r_loadG1 (i := 1) Try.isAgg3 hg530 rfl rfl hH523) (.inr hS524) ?_
                          obtain ⟨x548, hx549⟩ := get_some (xs := c) (j := (x526.2).toNat) (by omega)
                          obtain ⟨cs550, hr551, hg552⟩ := hs25_497.at_ _ _ hx549
                          obtain rfl := hr551
                          refine FWs.val rfl 225 rfl rfl (ptrAt A3 ((x526.2).toNat * 2)) _ (r_indexAddr Try.underlying22 Try.sizeOf43 rfl rfl (hs25_497.isSome (by omega)) (by omega) (by omega)) (.inr hS524) ?_
                          refine FWs.val rfl 226 rfl rfl (Value.agg #[Value.string x548.text, Value.bool x548.bare]) _ (r_loadGN Try.isAgg43 Try.sizeOf43 hg552 rfl hH523) (.inr hS524) ?_
                          refine FWs.val rfl 227 rfl rfl (Value.bool (!decide (x543 = x548))) _ (r_neqAgg Try.eqGuardType43 (fun _ => eqT43 _ _ _ _ _) rfl rfl) (.inr hS524) ?_
                          refine FWs.val rfl 228 rfl rfl (Value.bool (!decide (x543 = x548))) _ (r_pick (t := false) rfl) (.inr hS524) ?_
                          refine FWs.nil (hK31 _ _ ?_)
                          clear hK31 K31
                          refine FW.cond (!decide (x543 = x548)) rfl (fun hc553 => ?_) (fun hc553 => ?_)
                          · have hp554 : ¬ (x543 = x548) := by simpa using hc553
                            refine FW.seq_k fun K36 hK36 => ?_
                            refine FW.region rfl ?_
                            refine FWl.val 6 rfl rfl (Value.bool false) _ (r_assign) ?_
                            refine FWl.nil (hK36 _ _ ?_)
                            clear hK36 K36
                            refine FW.ret (inBlockF_ret (thenF_ret (thenF_ret (inBlockF_ret (thenF_ret (?_))))))
                            refine ret_tmp (v := Value.bool false) Try.results3 (.inl rfl) rfl ?_
                            exfalso; first | omega | (have := ed_tri a b c; omega) | (simp_all; done)
                          · have hp555 : x543 = x548 := by simpa using hc553
                            refine FW.skip (hK30 _ _ ?_)
                            clear hK30 K30
                            refine FW.region rfl ?_
                            refine FWl.val 174 rfl rfl (Value.int .i64 (k : Int)) _ (r_move) ?_
                            refine FWl.val 175 rfl rfl (Value.int .i64 ((k : Int) + 1)) _ (r_addI rfl rfl (by omega) (by omega)) ?_
                            refine FWl.val 22 rfl rfl (Value.int .i64 ((k : Int) + 1)) _ (r_assign) ?_
                            refine FWl.nil (thenF_norm (?_))
                            refine ⟨_, ⟨C490, k + 1, ⟨rfl, rfl, rfl, rfl, rfl, rfl, rfl, rfl, rfl, rfl, rfl, rfl, rfl, rfl, rfl, rfl, rfl, rfl, rfl, rfl, rfl, rfl, rfl, rfl, rfl, rfl, rfl, rfl, rfl, rfl, rfl, rfl, rfl, rfl, rfl, rfl, rfl, rfl, rfl, rfl, rfl, rfl, rfl, rfl, rfl, rfl, rfl, rfl, rfl, rfl, rfl, rfl, rfl, rfl, rfl, rfl, rfl, rfl, rfl, rfl, rfl, rfl, rfl, rfl, rfl, rfl, rfl, rfl, rfl, rfl, rfl, rfl, rfl, rfl, rfl, rfl, rfl, rfl, rfl, rfl, rfl, rfl, rfl, rfl, rfl, rfl, rfl, rfl, rfl, rfl, rfl, rfl, rfl, rfl, rfl, rfl, rfl, rfl, rfl, rfl, rfl, rfl, rfl, rfl, rfl, rfl, rfl, rfl, rfl, rfl, rfl, rfl, rfl, rfl, rfl, rfl, rfl, rfl, rfl, rfl, rfl, rfl, rfl, rfl, rfl, rfl, rfl, rfl, rfl, rfl, rfl, rfl, rfl, rfl, rfl, rfl, rfl, rfl, rfl, rfl, rfl, rfl, rfl, rfl, rfl, rfl, rfl, rfl, rfl, rfl, rfl, rfl, rfl, rfl, rfl, rfl, rfl, rfl, rfl, rfl, rfl, rfl, rfl, rfl, rfl, trivial⟩, hL1_522, by omega, rfl⟩, ?_⟩
                            omega
                · have hp556 : ¬ ((k : Int) < ((p.length : Nat) : Int)) := of_decide_eq_false hc517
                  refine FW.exit (thenF_exit (thenF_exit (inBlockF_hit (hK26 _ _ ?_))))
                  clear hK26 K26 hK28 K28
                  refine FW.seq_k fun K37 hK37 => ?_
                  refine FW.region rfl ?_
                  refine FWl.call 229 rfl rfl 5 #[] (r_call0 Try.call5 rfl ) ((patchLives_c hH516).mono ?_)
                  rintro _ w557 ⟨C558, rfl, e559⟩
                  have hE_560 := hE_491.step e559
                  refine FWl.val 6 rfl rfl (Value.bool true) _ (r_assign) ?_
                  refine FWl.nil (hK37 _ _ ?_)
                  clear hK37 K37
                  refine FW.ret (?_)
                  refine ret_tmp (v := Value.bool true) Try.results3 (.inl rfl) rfl ?_
                  exact ⟨C558, rfl, hE_560⟩

end Go.Proofs.Ytlofomkhiefbmaa
