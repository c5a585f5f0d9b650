/- Walks. -/
import Derived.Test.YtlofomkhiefbmaaJH
import Derived.Test.YtlofomkhiefbmaaJT
import Derived.Test.YtlofomkhiefbmaaJL
import Derived.Test.YtlofomkhiefbmaaM2
set_option maxRecDepth 10000
set_option linter.unusedVariables false
set_option linter.unusedSimpArgs false
namespace Go.Proofs.Ytlofomkhiefbmaa
open Go.RowKit
theorem ckT43 (w : World) (em : Bool) (x : Line) : (Instr.checkKey em 10000 43 (keyV x)).run Try.prog w = .ok () w := checkKey_line Try.underlying43 Try.underlying9 Try.underlying4 rfl rfl Try.isAgg9 Try.isAgg4
theorem Numbers_c {A : Option Addr} {c : Nat} {lists : List (List Line)} {w : World} {C : Gh} (hH : Has w C) (hs : Sl (kSl kLine) C A c lists) (hn : lists.length ≤ 1000) (hln : ∀ l ∈ lists, l.length ≤ 1000) : Ret Try.prog 10 #[Value.slice A lists.length c] w fun v w' => ∃ (C' : Gh) (ks : List Line) (A' : Option Addr) (c' : Nat), v = Value.slice A' ((lists.map fun l => l.map (ix ks)).length) c' ∧ Ext w.heap.size w C w' C' ∧ Sl (kSl (kInt .i64)) C' A' c' (lists.map fun l => l.map (ix ks)) ∧ ∀ l ∈ lists, ∀ x ∈ l, x ∈ ks := by
  refine Ret.of Try.func10 rfl Try.ntmps10 rfl ?_
  have hE := Ext.refl (B := w.heap.size) hH
  have bd_hs := hs.bd
  refine FW.seq_k fun K1 hK1 => ?_
  refine FW.region rfl ?_
  refine FWl.val 2 rfl rfl (Value.slice none 0 0) _ (r_assign) ?_
  refine FWl.nil (hK1 _ _ ?_)
  clear hK1 K1
  refine FW.seq_k fun K2 hK2 => ?_
  refine FW.region rfl ?_
  refine FWl.makeMap rfl rfl rfl hH ?_
  intro g1 w2 st3 e4 hg5
  have hge_st3_hE := Nat.le_trans hE.size (Nat.le_of_eq hg5)
  have hsz6 := e4.size
  have hE_7 := hE.step e4
  have hH8 := e4.has
  have hlt_st3 := st3.lt
  refine FWl.val 3 rfl rfl (Value.map (some g1)) _ (r_assign) ?_
  refine FWl.nil (hK2 _ _ ?_)
  clear hK2 K2
  refine FW.seq_k fun K3 hK3 => ?_
  refine FW.region rfl ?_
  refine FWl.val 4 rfl rfl (Value.slice none 0 0) _ (r_assign) ?_
  refine FWl.nil (hK3 _ _ ?_)
  clear hK3 K3
  refine FW.seq_k fun K4 hK4 => ?_
  refine FW.seq_k fun K5 hK5 => ?_
  refine FW.region rfl ?_
  refine FWl.val 13 rfl rfl (Value.slice A lists.length c) _ (r_move) ?_
  refine FWl.val 14 rfl rfl (Value.int .i64 ((lists.length : Nat) : Int)) _ (r_lenSl Try.underlying61 rfl) ?_
  refine FWl.val 15 rfl rfl (Value.int .i64 0) _ (r_move) ?_
  refine FWl.nil (hK5 _ _ ?_)
  clear hK5 K5
  refine FW.block ?_
  refine FW.loop_m (fun msr T w9 => ∃ (C10 : Gh) (k : Nat) (ks : List Line) (Ao : Option Addr) (co : Nat) (out : List (List Int)), Holds T [(0, Value.slice A lists.length c), (2, Value.slice none 0 0), (3, Value.map (some g1)), (4, Value.slice Ao out.length co), (12, Value.map (some g1)), (13, Value.slice A lists.length c), (14, Value.int .i64 ((lists.length : Nat) : Int)), (15, Value.int .i64 (k : Int))] ∧ Ext (w.heap.size) w2 C w9 C10 ∧ (Mp w9 C10 g1 (mes ks) ks.length) ∧ (Sl (kSl (kInt .i64)) C10 Ao co out) ∧ (Own w.heap.size 39 1 w9 C10 Ao out.length co) ∧ (k ≤ lists.length) ∧ (out = (lists.take k).map fun l => l.map (ix ks)) ∧ (∀ l ∈ lists.take k, ∀ x ∈ l, x ∈ ks) ∧ msr = lists.length - k) (lists.length - 0) ?_ ?_
  · exact ⟨C, 0, [], none, 0, [], ⟨rfl, rfl, rfl, rfl, rfl, rfl, rfl, rfl, trivial⟩, Ext.refl hH8, st3, Sl.nil _ _ _ _, Own.nil, Nat.zero_le _, by simp, by simp, rfl⟩
  · rintro msr T w9 ⟨C10, k, ks, Ao, co, out, hT, hL1, stm, hso, oo, hk, hout, hall, rfl⟩
    refine FW.frame hT fun B1 => ?_
    have hE_11 := hE_7.trans hL1
    have hs_12 := hs.mono hL1.le
    have hH13 := hL1.has
    have hmlt := stm.lt
    have hol : out.length ≤ lists.length := by rw [hout, List.length_map, List.length_take]; omega
    refine FW.seq_k fun K6 hK6 => ?_
    refine FW.region rfl ?_
    refine FWl.val 16 rfl rfl (Value.bool (decide ((k : Int) < ((lists.length : Nat) : Int)))) _ (r_lss rfl rfl) ?_
    refine FWl.nil (hK6 _ _ ?_)
    clear hK6 K6
    refine FW.seq_k fun K7 hK7 => ?_
    refine FW.cond (decide ((k : Int) < ((lists.length : Nat) : Int))) rfl (fun hc14 => ?_) (fun hc14 => ?_)
    · have hp15 : (k : Int) < ((lists.length : Nat) : Int) := of_decide_eq_true hc14
      refine FW.skip (hK7 _ _ ?_)
      clear hK7 K7
      refine FW.seq_k fun K8 hK8 => ?_
      refine FW.block ?_
      refine FW.seq_k fun K9 hK9 => ?_
      refine FW.region rfl ?_
      obtain ⟨x16, hx17⟩ := get_some (xs := lists) (j := k) (by omega)
      obtain ⟨cs18, hr19, hg20⟩ := hs_12.at_ _ _ hx17
      obtain ⟨A21, c22, rfl, hs23⟩ := hr19
      have hll := hln _ (List.mem_of_getElem? hx17)
      refine FWl.val 17 rfl rfl (ptrAt A (((k : Int)).toNat * 1)) _ (r_indexAddr Try.underlying61 Try.sizeOf22 rfl rfl (hs_12.isSome (by omega)) (by omega) (by omega)) ?_
      refine FWl.val 18 rfl rfl (Value.slice A21 x16.length c22) _ (r_loadG1 (i := 0) Try.isAgg22 hg20 rfl rfl hH13) ?_
      refine FWl.val 6 rfl rfl (Value.slice A21 x16.length c22) _ (r_assign) ?_
      refine FWl.nil (hK9 _ _ ?_)
      clear hK9 K9
      refine FW.seq_k fun K10 hK10 => ?_
      refine FW.region rfl ?_
      refine FWl.val 7 rfl rfl (Value.slice none 0 0) _ (r_assign) ?_
      refine FWl.nil (hK10 _ _ ?_)
      clear hK10 K10
      refine FW.seq_k fun K11 hK11 => ?_
      refine FW.seq_k fun K12 hK12 => ?_
      refine FW.region rfl ?_
      refine FWl.val 19 rfl rfl (Value.slice A21 x16.length c22) _ (r_move) ?_
      refine FWl.val 20 rfl rfl (Value.int .i64 ((x16.length : Nat) : Int)) _ (r_lenSl Try.underlying22 rfl) ?_
      refine FWl.val 21 rfl rfl (Value.int .i64 0) _ (r_move) ?_
      refine FWl.nil (hK12 _ _ ?_)
      clear hK12 K12
      refine FW.block ?_
      refine FW.loop_m (fun msr T w24 => ∃ (C25 : Gh) (k2 : Nat) (ks2 : List Line) (Ar : Option Addr) (cr : Nat) (row : List Int), Holds T [(0, Value.slice A lists.length c), (2, Value.slice none 0 0), (3, Value.map (some g1)), (4, Value.slice Ao out.length co), (6, Value.slice A21 x16.length c22), (7, Value.slice Ar row.length cr), (12, Value.map (some g1)), (13, Value.slice A lists.length c), (14, Value.int .i64 ((lists.length : Nat) : Int)), (15, Value.int .i64 (k : Int)), (16, Value.bool (decide ((k : Int) < ((lists.length : Nat) : Int)))), (17, ptrAt A (((k : Int)).toNat * 1)), (18, Value.slice A21 x16.length c22), (19, Value.slice A21 x16.length c22), (20, Value.int .i64 ((x16.length : Nat) : Int)), (21, Value.int .i64 (k2 : Int))] ∧ Ext (w.heap.size) w9 C10 w24 C25 ∧ (Mp w24 C25 g1 (mes ks2) ks2.length) ∧ (Sl (kInt .i64) C25 Ar cr row) ∧ (Own w.heap.size 3 1 w24 C25 Ar row.length cr) ∧ (k2 ≤ x16.length) ∧ (row = (x16.take k2).map (ix ks2)) ∧ (ks <+: ks2) ∧ (∀ x ∈ x16.take k2, x ∈ ks2) ∧ (Own (w.heap.size) 39 1 w24 C25 Ao out.length co) ∧ msr = x16.length - k2) (x16.length - 0) ?_ ?_
      · exact ⟨C10, 0, ks, none, 0, [], ⟨rfl, rfl, rfl, rfl, rfl, rfl, rfl, rfl, rfl, rfl, rfl, rfl, rfl, rfl, rfl, rfl, trivial⟩, Ext.refl hH13, stm, Sl.nil _ _ _ _, Own.nil, Nat.zero_le _, by simp, List.prefix_refl _, by simp, oo, rfl⟩
      · rintro msr T w24 ⟨C25, k2, ks2, Ar, cr, row, hT, hL2, stm2, hsr, or, hk2, hrow, hpre, hallr, ooL26, rfl⟩
        refine FW.frame hT fun B2 => ?_
        have hE_27 := hE_11.trans hL2
        have hL1_28 := hL1.trans hL2
        have hso_30 := hso.mono hL2.le
        have hs23_32 := hs23.mono hL2.le
        have hH33 := hL2.has
        have hmlt2 := stm2.lt
        have hrl : row.length ≤ x16.length := by rw [hrow, List.length_map, List.length_take]; omega
        refine FW.seq_k fun K13 hK13 => ?_
        refine FW.region rfl ?_
        refine FWl.val 22 rfl rfl (Value.bool (decide ((k2 : Int) < ((x16.length : Nat) : Int)))) _ (r_lss rfl rfl) ?_
        refine FWl.nil (hK13 _ _ ?_)
        clear hK13 K13
        refine FW.seq_k fun K14 hK14 => ?_
        refine FW.cond (decide ((k2 : Int) < ((x16.length : Nat) : Int))) rfl (fun hc34 => ?_) (fun hc34 => ?_)
        · have hp35 : (k2 : Int) < ((x16.length : Nat) : Int) := of_decide_eq_true hc34
          refine FW.skip (hK14 _ _ ?_)
          clear hK14 K14
          refine FW.seq_k fun K15 hK15 => ?_
          refine FW.block ?_
          refine FW.seq_k fun K16 hK16 => ?_
          refine FW.region rfl ?_
          obtain ⟨x36, hx37⟩ := get_some (xs := x16) (j := k2) (by omega)
          obtain ⟨cs38, hr39, hg40⟩ := hs23_32.at_ _ _ hx37
          obtain rfl := hr39
          refine FWl.val 23 rfl rfl (ptrAt A21 (((k2 : Int)).toNat * 2)) _ (r_indexAddr Try.underlying22 Try.sizeOf43 rfl rfl (hs23_32.isSome (by omega)) (by omega) (by omega)) ?_
          refine FWl.val 24 rfl rfl (Value.agg #[Value.string x36.text, Value.bool x36.bare]) _ (r_loadGN Try.isAgg43 Try.sizeOf43 hg40 rfl hH33) ?_
          refine FWl.alloc (cs := [Value.string ByteArray.empty, Value.bool false]) rfl rfl rfl Try.zeroValue43 rfl hH33 ?_
          intro g41 w42 st43 e44 hg45
          have hge_st43_hE := Nat.le_trans hE_27.size (Nat.le_of_eq hg45)
          have hge_st43_hL1 := Nat.le_trans hL1_28.size (Nat.le_of_eq hg45)
          have hge_st43_hL2 := Nat.le_trans hL2.size (Nat.le_of_eq hg45)
          have hsz46 := e44.size
          have hE_47 := hE_27.step e44
          have hL2_49 := hL2.trans (e44.mono hE_27.size)
          have stm2_50 := stm2.call e44
          have oo_51 := ooL26.call e44
          have or_52 := or.call e44
          have hH53 := e44.has
          have hlt_st43 := st43.lt
          refine FWl.store (vs := [Value.string x36.text, Value.bool x36.bare]) (cs' := [Value.string x36.text, Value.bool x36.bare]) rfl rfl rfl Try.sizeOf43 rfl st43 hH53 rfl rfl rfl rfl rfl rfl ?_
          intro w56 m57 st43_58
          have hE_59 := hE_47.trans (m57.ext hE_47.size (by omega))
          have hL2_61 := hL2_49.trans (m57.ext hE_47.size (by omega))
          have stm2_62 := stm2_50.other m57 (stm2_50.ne_st st43)
          have oo_63 := oo_51.mut m57 (oo_51.nbT st43 (by decide))
          have or_64 := or_52.mut m57 (or_52.nbT st43 (by decide))
          have hH65 := m57.has
          obtain ⟨C66, m67, hcg68⟩ := st43_58.commit hH65
          have hE_69 := hE_59.trans (m67.ext hE_59.size (by omega))
          have hL2_71 := hL2_61.trans (m67.ext hE_59.size (by omega))
          have stm2_72 := stm2_62.other m67 (stm2_62.ne_st st43_58)
          have oo_73 := oo_63.mut m67 (oo_63.nbT st43_58 (by decide))
          have or_74 := or_64.mut m67 (or_64.nbT st43_58 (by decide))
          have hH75 := m67.has
          have hsr_80 := hsr.mono m67.le
          refine FWl.nil (hK16 _ _ ?_)
          clear hK16 K16
          refine FW.seq_k fun K17 hK17 => ?_
          refine FW.region rfl ?_
          refine FWl.val 26 rfl rfl (Value.map (some g1)) _ (r_move) ?_
          refine FWl.val 27 rfl rfl (Value.agg #[Value.string x36.text, Value.bool x36.bare]) _ (r_loadPN Try.isAgg43 Try.sizeOf43 hcg68 rfl hH75) ?_
          refine FWl.val 28 rfl rfl (Value.tuple #[Value.int .i64 (lk ks2 x36), Value.bool (decide (x36 ∈ ks2))]) _ (r_lookupM (x := x36) Try.underlying62 Try.underlying43 (fun w em => ckT43 w em _) eqT43 Try.zeroValue3 stm2_72 rfl rfl) ?_
          refine FWl.val 25 rfl rfl (Value.tuple #[Value.int .i64 (lk ks2 x36), Value.bool (decide (x36 ∈ ks2))]) _ (r_move) ?_
          refine FWl.val 29 rfl rfl (Value.int .i64 (lk ks2 x36)) _ (r_extract rfl rfl) ?_
          refine FWl.val 30 rfl rfl (Value.bool (decide (x36 ∈ ks2))) _ (r_extract rfl rfl) ?_
          refine FWl.val 10 rfl rfl (Value.int .i64 (lk ks2 x36)) _ (r_assign) ?_
          refine FWl.val 11 rfl rfl (Value.bool (decide (x36 ∈ ks2))) _ (r_assign) ?_
          refine FWl.nil (hK17 _ _ ?_)
          clear hK17 K17
          refine FW.seq_k fun K18 hK18 => ?_
          refine FW.seq_k fun K19 hK19 => ?_
          refine FW.region rfl ?_
          refine FWl.val 31 rfl rfl (Value.bool (decide (x36 ∈ ks2))) _ (r_move) ?_
          refine FWl.val 32 rfl rfl (Value.bool (!(decide (x36 ∈ ks2)))) _ (r_not rfl) ?_
          refine FWl.nil (hK19 _ _ ?_)
          clear hK19 K19
          refine FW.cond (!(decide (x36 ∈ ks2))) rfl (fun hc82 => ?_) (fun hc82 => ?_)
          · have hp83 : ¬ (x36 ∈ ks2) := by simpa using hc82
            refine FW.seq_k fun K20 hK20 => ?_
            refine FW.region rfl ?_
            refine FWl.val 33 rfl rfl (Value.map (some g1)) _ (r_move) ?_
            refine FWl.val 34 rfl rfl (Value.int .i64 ((ks2.length : Nat) : Int)) _ (r_lenMap Try.underlying62 stm2_72 rfl) ?_
            refine FWl.val 10 rfl rfl (Value.int .i64 ((ks2.length : Nat) : Int)) _ (r_assign) ?_
            refine FWl.nil (hK20 _ _ ?_)
            clear hK20 K20
            refine FW.region rfl ?_
            refine FWl.val 35 rfl rfl (Value.map (some g1)) _ (r_move) ?_
            refine FWl.val 36 rfl rfl (Value.agg #[Value.string x36.text, Value.bool x36.bare]) _ (r_loadPN Try.isAgg43 Try.sizeOf43 hcg68 rfl hH75) ?_
            refine FWl.val 37 rfl rfl (Value.int .i64 ((ks2.length : Nat) : Int)) _ (r_move) ?_
            refine FWl.mapUpdate (x := x36) rfl rfl rfl Try.underlying62 Try.underlying43 (fun w em => ckT43 w em _) eqT43 stm2_72 hH75 (by first | assumption | omega) rfl rfl rfl ?_
            intro w84 m85 stm2_86
            have hE_87 := hE_69.trans (m85.ext hE_69.size (by omega))
            have hL2_89 := hL2_71.trans (m85.ext hE_69.size (by omega))
            have oo_90 := oo_73.mut m85 (oo_73.nbM stm2_72)
            have or_91 := or_74.mut m85 (or_74.nbM stm2_72)
            have hH92 := m85.has
            refine FWl.nil (hK18 _ _ ?_)
            clear hK18 K18
            refine FW.region rfl ?_
            refine FWl.val 38 rfl rfl (Value.slice Ar row.length cr) _ (r_move) ?_
            refine FWl.val 39 rfl rfl (Value.int .i64 ((ks2.length : Nat) : Int)) _ (r_move) ?_
            refine FWl.lit (K := kInt .i64) (xs := [((ks2.length : Nat) : Int)]) (cs := [Value.int .i64 ((ks2.length : Nat) : Int)]) rfl rfl rfl Try.underlying39 info3 zero3 rfl (by kernel_rfl) (.cons (cs := [Value.int .i64 ((ks2.length : Nat) : Int)]) rfl .nil) rfl hH92 ?_
            intro A93 w94 C95 hs96 e97 hcg98
            have hsz99 := e97.size
            have hE_100 := hE_87.step e97
            have hL2_102 := hL2_89.trans (e97.mono hE_87.size)
            have stm2_103 := stm2_86.call e97
            have oo_104 := oo_90.call e97
            have or_105 := or_91.call e97
            have hsr_110 := hsr_80.mono e97.le
            have hH113 := e97.has
            refine FWl.app (K := kInt .i64) (B := w.heap.size) (xs := row) (ys := [((ks2.length : Nat) : Int)]) (sz := 1) (bytes := 8) rfl rfl rfl Try.underlying39 info3 zero3 rfl rfl rfl rfl rfl rfl rfl hsr_110 or_105 hs96 hH113 hE_100.size (by simp only [List.length_cons, List.length_nil]; omega) (by simp only [List.length_cons, List.length_nil]; omega) ?_
            intro A114 c115 w116 C117 hs118 ow119 e120 ap121
            have hL2_124 := hL2_102.trans e120
            have stm2_125 := stm2_103.app ap121 (or_105.nbM stm2_103)
            have oo_127 := oo_104.app ap121 (or_105.nb2T oo_104 (by decide))
            refine FWl.val 7 rfl rfl (Value.slice A114 ((row ++ ([((ks2.length : Nat) : Int)])).length) c115) _ (r_assign) ?_
            refine FWl.nil (hK15 _ _ ?_)
            clear hK15 K15
            refine FW.region rfl ?_
            refine FWl.val 42 rfl rfl (Value.int .i64 ((k2 : Int) + 1)) _ (r_addI rfl rfl (by omega) (by omega)) ?_
            refine FWl.val 21 rfl rfl (Value.int .i64 ((k2 : Int) + 1)) _ (r_move) ?_
            refine FWl.nil (thenF_norm (?_))
            refine ⟨_, ⟨C117, k2 + 1, (ks2 ++ [x36]), A114, c115, row ++ ([((ks2.length : Nat) : Int)]), ⟨rfl, rfl, rfl, rfl, rfl, rfl, rfl, rfl, rfl, rfl, rfl, rfl, rfl, rfl, rfl, rfl, trivial⟩, hL2_124, stm2_125, hs118, ow119, by omega, row_new (by assumption) (by assumption) hrow hallr, hpre.trans ⟨_, rfl⟩, mem_take_succ (by assumption) (fun y hy => List.mem_append_left _ (hallr y hy)) (by simp), oo_127, rfl⟩, ?_⟩
            omega
          · have hp138 : x36 ∈ ks2 := by simpa using hc82
            refine FW.skip (hK18 _ _ ?_)
            clear hK18 K18
            refine FW.region rfl ?_
            refine FWl.val 38 rfl rfl (Value.slice Ar row.length cr) _ (r_move) ?_
            refine FWl.val 39 rfl rfl (Value.int .i64 (lk ks2 x36)) _ (r_move) ?_
            refine FWl.lit (K := kInt .i64) (xs := [lk ks2 x36]) (cs := [Value.int .i64 (lk ks2 x36)]) rfl rfl rfl Try.underlying39 info3 zero3 rfl (by kernel_rfl) (.cons (cs := [Value.int .i64 (lk ks2 x36)]) rfl .nil) rfl hH75 ?_
            intro A139 w140 C141 hs142 e143 hcg144
            have hsz145 := e143.size
            have hE_146 := hE_69.step e143
            have hL2_148 := hL2_71.trans (e143.mono hE_69.size)
            have stm2_149 := stm2_72.call e143
            have oo_150 := oo_73.call e143
            have or_151 := or_74.call e143
            have hsr_156 := hsr_80.mono e143.le
            have hH159 := e143.has
            refine FWl.app (K := kInt .i64) (B := w.heap.size) (xs := row) (ys := [lk ks2 x36]) (sz := 1) (bytes := 8) rfl rfl rfl Try.underlying39 info3 zero3 rfl rfl rfl rfl rfl rfl rfl hsr_156 or_151 hs142 hH159 hE_146.size (by simp only [List.length_cons, List.length_nil]; omega) (by simp only [List.length_cons, List.length_nil]; omega) ?_
            intro A160 c161 w162 C163 hs164 ow165 e166 ap167
            have hL2_170 := hL2_148.trans e166
            have stm2_171 := stm2_149.app ap167 (or_151.nbM stm2_149)
            have oo_173 := oo_150.app ap167 (or_151.nb2T oo_150 (by decide))
            refine FWl.val 7 rfl rfl (Value.slice A160 ((row ++ ([lk ks2 x36])).length) c161) _ (r_assign) ?_
            refine FWl.nil (hK15 _ _ ?_)
            clear hK15 K15
            refine FW.region rfl ?_
            refine FWl.val 42 rfl rfl (Value.int .i64 ((k2 : Int) + 1)) _ (r_addI rfl rfl (by omega) (by omega)) ?_
            refine FWl.val 21 rfl rfl (Value.int .i64 ((k2 : Int) + 1)) _ (r_move) ?_
            refine FWl.nil (thenF_norm (?_))
            refine ⟨_, ⟨C163, k2 + 1, ks2, A160, c161, row ++ ([lk ks2 x36]), ⟨rfl, rfl, rfl, rfl, rfl, rfl, rfl, rfl, rfl, rfl, rfl, rfl, rfl, rfl, rfl, rfl, trivial⟩, hL2_170, stm2_171, hs164, ow165, by omega, row_found (by assumption) (by assumption) hrow, hpre, mem_take_succ (by assumption) hallr (by assumption), oo_173, rfl⟩, ?_⟩
            omega
        · have hp184 : ¬ ((k2 : Int) < ((x16.length : Nat) : Int)) := of_decide_eq_false hc34
          refine FW.exit (thenF_exit (thenF_exit (inBlockF_hit (hK11 _ _ ?_))))
          clear hK11 K11 hK14 K14
          refine FW.region rfl ?_
          refine FWl.val 43 rfl rfl (Value.slice Ao out.length co) _ (r_move) ?_
          refine FWl.val 44 rfl rfl (Value.slice Ar row.length cr) _ (r_move) ?_
          refine FWl.lit (K := kSl (kInt .i64)) (xs := [row]) (cs := [Value.slice Ar row.length cr]) rfl rfl rfl Try.underlying34 info39 zero39 rfl (by kernel_rfl) (.cons (cs := [Value.slice Ar row.length cr]) (kSl_mk hsr) .nil) rfl hH33 ?_
          intro A185 w186 C187 hs188 e189 hcg190
          have hsz191 := e189.size
          have hE_192 := hE_27.step e189
          have hL1_193 := hL1_28.trans (e189.mono hE_27.size)
          have stm2_194 := stm2.call e189
          have oo_195 := ooL26.call e189
          have hso_198 := hso_30.mono e189.le
          have hH202 := e189.has
          refine FWl.app (K := kSl (kInt .i64)) (B := w.heap.size) (xs := out) (ys := [row]) (sz := 1) (bytes := 24) rfl rfl rfl Try.underlying34 info39 zero39 rfl rfl rfl rfl rfl rfl rfl hso_198 oo_195 hs188 hH202 hE_192.size (by simp only [List.length_cons, List.length_nil]; omega) (by simp only [List.length_cons, List.length_nil]; omega) ?_
          intro A203 c204 w205 C206 hs207 ow208 e209 ap210
          have hL1_212 := hL1_193.trans e209
          have stm2_213 := stm2_194.app ap210 (oo_195.nbM stm2_194)
          refine FWl.val 4 rfl rfl (Value.slice A203 ((out ++ ([row])).length) c204) _ (r_assign) ?_
          refine FWl.nil (hK8 _ _ ?_)
          clear hK8 K8
          refine FW.region rfl ?_
          refine FWl.val 47 rfl rfl (Value.int .i64 ((k : Int) + 1)) _ (r_addI rfl rfl (by omega) (by omega)) ?_
          refine FWl.val 15 rfl rfl (Value.int .i64 ((k : Int) + 1)) _ (r_move) ?_
          refine FWl.nil (thenF_norm (?_))
          refine ⟨_, ⟨C206, k + 1, ks2, A203, c204, out ++ ([row]), ⟨rfl, rfl, rfl, rfl, rfl, rfl, rfl, rfl, trivial⟩, hL1_212, stm2_213, hs207, ow208, by omega, out_next (by assumption) hout hall hpre (by rw [hrow, List.take_of_length_le (by omega)]), mem_take_succ (by assumption) (fun l hl x hx => hpre.subset (hall l hl x hx)) (fun x hx => hallr x (by rw [List.take_of_length_le (by omega)]; exact hx)), rfl⟩, ?_⟩
          omega
    · have hp224 : ¬ ((k : Int) < ((lists.length : Nat) : Int)) := of_decide_eq_false hc14
      refine FW.exit (thenF_exit (thenF_exit (inBlockF_hit (hK4 _ _ ?_))))
      clear hK4 K4 hK7 K7
      refine FW.seq_k fun K21 hK21 => ?_
      refine FW.region rfl ?_
      refine FWl.val 48 rfl rfl (Value.slice Ao out.length co) _ (r_move) ?_
      refine FWl.val 2 rfl rfl (Value.slice Ao out.length co) _ (r_assign) ?_
      refine FWl.nil (hK21 _ _ ?_)
      clear hK21 K21
      refine FW.ret (?_)
      refine ret_tmp (v := Value.slice Ao out.length co) Try.results10 (.inl rfl) rfl ?_
      have hkl : lists.take k = lists := List.take_of_length_le (by omega)
      rw [hkl] at hout hall
      subst hout
      exact ⟨C10, ks, Ao, co, rfl, hE_11, hso, hall⟩

end Go.Proofs.Ytlofomkhiefbmaa
