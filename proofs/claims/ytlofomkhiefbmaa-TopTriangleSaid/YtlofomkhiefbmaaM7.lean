/- Walks. -/
import Derived.Test.YtlofomkhiefbmaaJH
import Derived.Test.YtlofomkhiefbmaaJT
import Derived.Test.YtlofomkhiefbmaaPW
import Derived.Test.YtlofomkhiefbmaaM5
import Derived.Test.YtlofomkhiefbmaaM6
set_option maxRecDepth 10000
set_option linter.unusedVariables false
set_option linter.unusedSimpArgs false
namespace Go.Proofs.Ytlofomkhiefbmaa
open Go.RowKit
theorem stepN_c {B d : Nat} {A1 A2 A3 : Option Addr} {c1 c2 c3 gf : Nat} {a b : List Int} {w : World} {C : Gh} (hH : Has w C) (stf : St w C gf [.slice A1 a.length c1, .slice A2 b.length c2, .slice A3 (rowsN a b d).length c3] 100) (hsa : Sl (kInt .i64) C A1 c1 a) (hsb : Sl (kInt .i64) C A2 c2 b) (hsr : Sl (kSl (kInt .i64)) C A3 c3 (rowsN a b d)) (ho : Own B 39 1 w C A3 (rowsN a b d).length c3) (hg : B ≤ gf) (h3 : a.length ≤ 400) (h4 : b.length ≤ 400) (hd : d ≤ 900) : Ret Try.prog 47 #[Value.pointer (some ⟨gf, 0, none⟩)] w fun v w' =>
    ∃ (C' : Gh) (A3' : Option Addr) (c3' : Nat), v = .bool (decide (ed a b ≤ d + 1)) ∧ Ext B w C w' C' ∧ St w' C' gf [.slice A1 a.length c1, .slice A2 b.length c2, .slice A3' (rowsN a b (d + 1)).length c3'] 100 ∧ Sl (kSl (kInt .i64)) C' A3' c3' (rowsN a b (d + 1)) ∧ Own B 39 1 w' C' A3' (rowsN a b (d + 1)).length c3' := by
  refine (step_c hH stf hsa hsb hsr ho hg (fun r hr => ?_) (fun r hr => ?_) (by simp [rowsN_len]) h3 h4 (by rw [rowsN_len]; omega)).mono ?_
  · obtain ⟨q, hq⟩ := rowsN_good h3 h4 r hr; exact hq.len
  · obtain ⟨q, hq⟩ := rowsN_good h3 h4 r hr; exact good_vals hq h3 h4
  · rintro v w' ⟨C', A3', c3', rfl, e, s, hs, ho'⟩
    rw [rowsN_succ] at s hs ho'
    refine ⟨C', A3', c3', ?_, e, s, hs, ho'⟩
    rw [rowsN_last]
    congr 1
    rw [decide_eq_decide]
    exact field0 h3 h4 (d + 1)
theorem fill_c {A1 A2 : Option Addr} {c1 c2 : Nat} {a b : List Int} {w : World} {C : Gh} (hH : Has w C) (hsa : Sl (kInt .i64) C A1 c1 a) (hsb : Sl (kInt .i64) C A2 c2 b) (h3 : a.length ≤ 400) (h4 : b.length ≤ 400) : Ret Try.prog 24 #[.slice A1 a.length c1, .slice A2 b.length c2] w fun v w' => ∃ (C' : Gh) (gf : Nat) (A3 : Option Addr) (c3 : Nat), v = Value.pointer (some ⟨gf, 0, none⟩) ∧ Ext w.heap.size w C w' C' ∧ CellsG C' (some ⟨gf, 0, none⟩) 0 [.slice A1 a.length c1, .slice A2 b.length c2, .slice A3 (rowsN a b (ed a b)).length c3] ∧ Sl (kSl (kInt .i64)) C' A3 c3 (rowsN a b (ed a b)) := by
  refine Ret.of Try.func24 rfl Try.ntmps24 rfl ?_
  have hE := Ext.refl (B := w.heap.size) hH; have hal := hsa.bd; have hbl := hsb.bd; have hedl := ed_len a b
  refine FW.seq_k fun K1 hK1 => ?_
  refine FW.region rfl ?_
  refine FWl.val 4 rfl rfl (Value.pointer none) _ (r_assign) ?_
  refine FWl.nil (hK1 _ _ ?_)
  clear hK1 K1
  refine FW.seq_k fun K2 hK2 => ?_
  refine FW.region rfl ?_
  refine FWl.val 7 rfl rfl (Value.slice A1 a.length c1) _ (r_move) ?_
  refine FWl.val 8 rfl rfl (Value.slice A2 b.length c2) _ (r_move) ?_
  refine FWl.val 9 rfl rfl (Value.agg #[Value.slice A1 a.length c1, Value.slice A2 b.length c2, Value.slice none 0 0]) _ (r_build (by kernel_rfl)) ?_
  refine FWl.box (cs := [Value.slice A1 a.length c1, Value.slice A2 b.length c2, Value.slice none 0 0]) rfl rfl rfl rfl rfl hH ?_
  intro g1 w2 st3 e4 hg5
  have hge_st3_hE := Nat.le_trans hE.size (Nat.le_of_eq hg5)
  have hsz6 := e4.size
  have hE_7 := hE.step e4
  have hH8 := e4.has
  have hlt_st3 := st3.lt
  refine FWl.val 5 rfl rfl (Value.pointer (some ⟨g1, 0, none⟩)) _ (r_assign) ?_
  refine FWl.nil (hK2 _ _ ?_)
  clear hK2 K2
  refine FW.seq_k fun K3 hK3 => ?_
  refine FW.region rfl ?_
  refine FWl.lit (K := kInt .i64) (xs := [1073741824]) (cs := [Value.int .i64 1073741824]) rfl rfl rfl Try.underlying39 info3 zero3 rfl (by kernel_rfl) (.cons (cs := [Value.int .i64 1073741824]) rfl .nil) rfl hH8 ?_
  intro A9 w10 C11 hs12 e13 hcg14
  have hsz15 := e13.size
  have hE_16 := hE_7.step e13
  have st3_17 := st3.call e13
  have hsa_18 := hsa.mono e13.le
  have hsb_19 := hsb.mono e13.le
  have hH20 := e13.has
  refine FWl.val 12 rfl rfl (Value.slice A1 a.length c1) _ (r_move) ?_
  refine FWl.val 13 rfl rfl (Value.int .i64 ((a.length : Nat) : Int)) _ (r_lenSl Try.underlying39 rfl) ?_
  refine FWl.val 14 rfl rfl (Value.slice A2 b.length c2) _ (r_move) ?_
  refine FWl.val 15 rfl rfl (Value.int .i64 ((b.length : Nat) : Int)) _ (r_lenSl Try.underlying39 rfl) ?_
  refine FWl.val 16 rfl rfl (Value.int .i64 (((a.length : Nat) : Int) + ((b.length : Nat) : Int))) _ (r_addI rfl rfl (by omega) (by omega)) ?_
  refine FWl.val 17 rfl rfl (Value.int .i64 ((a.length + b.length + 3 : Nat) : Int)) _ (r_addE rfl rfl (by simp only [IntKind.wrap_i64]; omega)) ?_
  refine FWl.call 18 rfl rfl 44 #[Value.slice A9 (([1073741824]).length) 1, Value.int .i64 ((a.length + b.length + 3 : Nat) : Int)] (r_call2 Try.call44 rfl rfl rfl) ((Repeat_c (n := (a.length + b.length + 3)) hH20 hs12 (by omega) (by omega)).mono ?_)
  rintro _ w22 ⟨g21, C23, rfl, e24, st25, hge26⟩
  have hge_st25 := Nat.le_trans hE_16.size hge26
  have hsz27 := e24.size
  have hE_28 := hE_16.step e24
  have st3_29 := st3_17.call e24
  have hsa_30 := hsa_18.mono e24.le
  have hsb_31 := hsb_19.mono e24.le
  have hH34 := e24.has
  have hlt_st25 := st25.lt
  have hl35 : (List.replicate (a.length + b.length + 3) (1073741824 : Int)).length = (a.length + b.length + 3) := by simp
  refine FWl.val 6 rfl rfl (Value.slice (some ⟨g21, 0, none⟩) (a.length + b.length + 3) (a.length + b.length + 3)) _ (r_assign) ?_
  refine FWl.nil (hK3 _ _ ?_)
  clear hK3 K3
  refine FW.seq_k fun K4 hK4 => ?_
  refine FW.region rfl ?_
  refine FWl.val 19 rfl rfl (Value.slice (some ⟨g21, 0, none⟩) (a.length + b.length + 3) (a.length + b.length + 3)) _ (r_move) ?_
  refine FWl.val 20 rfl rfl (Value.pointer (some ⟨g1, 0, none⟩)) _ (r_move) ?_
  refine FWl.val 21 rfl rfl (Value.slice A1 a.length c1) _ (r_move) ?_
  refine FWl.val 22 rfl rfl (Value.int .i64 ((a.length : Nat) : Int)) _ (r_lenSl Try.underlying39 rfl) ?_
  refine FWl.val 23 rfl rfl (Value.slice A2 b.length c2) _ (r_move) ?_
  refine FWl.val 24 rfl rfl (Value.int .i64 ((b.length : Nat) : Int)) _ (r_lenSl Try.underlying39 rfl) ?_
  refine FWl.val 25 rfl rfl (Value.int .i64 (((a.length : Nat) : Int) - ((b.length : Nat) : Int))) _ (r_subI rfl rfl (by omega) (by omega)) ?_
  refine FWl.call 26 rfl rfl 46 #[Value.pointer (some ⟨g1, 0, none⟩), Value.int .i64 (((a.length : Nat) : Int) - ((b.length : Nat) : Int))] (r_call2 Try.call46 rfl rfl rfl) ((slot_c hH34 st3_29 hsa_30 hsb_31 (Sl.nil _ _ _ _) (k := ((a.length : Nat) : Int) - ((b.length : Nat) : Int)) (by omega) (by omega)).mono ?_)
  rintro _ w36 ⟨rfl, e37⟩
  have hsz38 := e37.size
  have hE_39 := hE_28.step e37
  have st3_40 := st3_29.call e37
  have st25_41 := st25.call e37
  have hH42 := e37.has
  refine FWl.val 27 rfl rfl (Value.pointer (some ⟨g1, 0, none⟩)) _ (r_move) ?_
  refine FWl.val 28 rfl rfl (Value.slice A1 a.length c1) _ (r_move) ?_
  refine FWl.val 29 rfl rfl (Value.int .i64 ((a.length : Nat) : Int)) _ (r_lenSl Try.underlying39 rfl) ?_
  refine FWl.val 30 rfl rfl (Value.slice A1 a.length c1) _ (r_move) ?_
  refine FWl.val 31 rfl rfl (Value.int .i64 ((a.length : Nat) : Int)) _ (r_lenSl Try.underlying39 rfl) ?_
  refine FWl.val 32 rfl rfl (Value.slice A2 b.length c2) _ (r_move) ?_
  refine FWl.val 33 rfl rfl (Value.int .i64 ((b.length : Nat) : Int)) _ (r_lenSl Try.underlying39 rfl) ?_
  refine FWl.val 34 rfl rfl (Value.int .i64 (((a.length : Nat) : Int) - ((b.length : Nat) : Int))) _ (r_subI rfl rfl (by omega) (by omega)) ?_
  refine FWl.call 35 rfl rfl 45 #[Value.pointer (some ⟨g1, 0, none⟩), Value.int .i64 ((a.length : Nat) : Int), Value.int .i64 (((a.length : Nat) : Int) - ((b.length : Nat) : Int))] (r_call3 Try.call45 rfl rfl rfl rfl) ((slide_c hH42 st3_40 hsa_30 hsb_31 (Sl.nil _ _ _ _) (x := ((a.length : Nat) : Int)) (k := ((a.length : Nat) : Int) - ((b.length : Nat) : Int)) (by omega) (by omega) (by omega) (by omega) (by omega)).mono ?_)
  rintro _ w43 ⟨rfl, e44⟩
  have hsz45 := e44.size
  have hE_46 := hE_39.step e44
  have st3_47 := st3_40.call e44
  have st25_48 := st25_41.call e44
  have hH49 := e44.has
  refine FWl.val 36 rfl rfl (Value.pointer (some ⟨g21, ((((a.length : Nat) : Int) - ((b.length : Nat) : Int)) + ((b.length : Nat) : Int) + 1).toNat, none⟩)) _ (r_indexAddrI Try.underlying39 Try.sizeOf3 rfl rfl (by omega) (by omega)) ?_
  refine FWl.storeI rfl rfl rfl Try.sizeOf3 st25_48 hH49 rfl rfl (by have := hl35; omega) ?_
  intro w50 m51 st25_52
  have hl53 : ((List.replicate (a.length + b.length + 3) (1073741824 : Int)).set ((((a.length : Nat) : Int) - ((b.length : Nat) : Int)) + ((b.length : Nat) : Int) + 1).toNat (slide a b ((a.length : Nat) : Int) (((a.length : Nat) : Int) - ((b.length : Nat) : Int)))).length = (a.length + b.length + 3) := by rw [List.length_set]; exact hl35
  have hE_54 := hE_46.trans (m51.ext hE_46.size (by omega))
  have st3_55 := st3_47.other m51 (st3_47.ne_type st25_48 (by decide))
  have hH56 := m51.has
  refine FWl.nil (hK4 _ _ ?_)
  clear hK4 K4
  refine FW.seq_k fun K5 hK5 => ?_
  refine FW.region rfl ?_
  refine FWl.val 37 rfl rfl (Value.pointer (some ⟨g1, 0, none⟩)) _ (r_move) ?_
  refine FWl.val 38 rfl rfl (Value.slice (some ⟨g21, 0, none⟩) (a.length + b.length + 3) (a.length + b.length + 3)) _ (r_move) ?_
  obtain ⟨C57, m58, hs59⟩ := st25_52.commitI hH56 (by have := hl53; omega)
  have hE_60 := hE_54.trans (m58.ext hE_54.size (by omega))
  have st3_61 := st3_55.other m58 (st3_55.ne_type st25_52 (by decide))
  have hH62 := m58.has
  have hsa_63 := hsa_30.mono m58.le
  have hsb_64 := hsb_31.mono m58.le
  rw [show Value.slice (some ⟨g21, 0, none⟩) (a.length + b.length + 3) (a.length + b.length + 3) = Value.slice (some ⟨g21, 0, none⟩) (((List.replicate (a.length + b.length + 3) (1073741824 : Int)).set ((((a.length : Nat) : Int) - ((b.length : Nat) : Int)) + ((b.length : Nat) : Int) + 1).toNat (slide a b ((a.length : Nat) : Int) (((a.length : Nat) : Int) - ((b.length : Nat) : Int)))).length) (((List.replicate (a.length + b.length + 3) (1073741824 : Int)).set ((((a.length : Nat) : Int) - ((b.length : Nat) : Int)) + ((b.length : Nat) : Int) + 1).toNat (slide a b ((a.length : Nat) : Int) (((a.length : Nat) : Int) - ((b.length : Nat) : Int)))).length) by rw [hl53]]
  refine FWl.lit (K := kSl (kInt .i64)) (xs := [((List.replicate (a.length + b.length + 3) (1073741824 : Int)).set ((((a.length : Nat) : Int) - ((b.length : Nat) : Int)) + ((b.length : Nat) : Int) + 1).toNat (slide a b ((a.length : Nat) : Int) (((a.length : Nat) : Int) - ((b.length : Nat) : Int))))]) (cs := [Value.slice (some ⟨g21, 0, none⟩) (((List.replicate (a.length + b.length + 3) (1073741824 : Int)).set ((((a.length : Nat) : Int) - ((b.length : Nat) : Int)) + ((b.length : Nat) : Int) + 1).toNat (slide a b ((a.length : Nat) : Int) (((a.length : Nat) : Int) - ((b.length : Nat) : Int)))).length) (((List.replicate (a.length + b.length + 3) (1073741824 : Int)).set ((((a.length : Nat) : Int) - ((b.length : Nat) : Int)) + ((b.length : Nat) : Int) + 1).toNat (slide a b ((a.length : Nat) : Int) (((a.length : Nat) : Int) - ((b.length : Nat) : Int)))).length)]) rfl rfl rfl Try.underlying34 info39 zero39 rfl (by kernel_rfl) (.cons (cs := [Value.slice (some ⟨g21, 0, none⟩) (((List.replicate (a.length + b.length + 3) (1073741824 : Int)).set ((((a.length : Nat) : Int) - ((b.length : Nat) : Int)) + ((b.length : Nat) : Int) + 1).toNat (slide a b ((a.length : Nat) : Int) (((a.length : Nat) : Int) - ((b.length : Nat) : Int)))).length) (((List.replicate (a.length + b.length + 3) (1073741824 : Int)).set ((((a.length : Nat) : Int) - ((b.length : Nat) : Int)) + ((b.length : Nat) : Int) + 1).toNat (slide a b ((a.length : Nat) : Int) (((a.length : Nat) : Int) - ((b.length : Nat) : Int)))).length)]) (kSl_mk hs59) .nil) rfl hH62 ?_
  intro A67 w68 C69 hs70 e71 hcg72
  have hsz73 := e71.size
  have hE_74 := hE_60.step e71
  have st3_75 := st3_61.call e71
  have hsa_76 := hsa_63.mono e71.le
  have hsb_77 := hsb_64.mono e71.le
  have hs59_80 := hs59.mono e71.le
  have hH81 := e71.has
  refine FWl.val 40 rfl rfl (Value.pointer (some ⟨g1, 0, none⟩)) _ (r_nilCheck rfl) ?_
  refine FWl.val 41 rfl rfl (Value.pointer (some ⟨g1, 2, none⟩)) _ (r_fieldAddrS Try.underlying100 rfl Try.sizeOf34 rfl rfl rfl rfl) ?_
  refine FWl.store (vs := [Value.slice A67 (([((List.replicate (a.length + b.length + 3) (1073741824 : Int)).set ((((a.length : Nat) : Int) - ((b.length : Nat) : Int)) + ((b.length : Nat) : Int) + 1).toNat (slide a b ((a.length : Nat) : Int) (((a.length : Nat) : Int) - ((b.length : Nat) : Int))))]).length) 1]) (cs' := [Value.slice A1 a.length c1, Value.slice A2 b.length c2, Value.slice A67 (([((List.replicate (a.length + b.length + 3) (1073741824 : Int)).set ((((a.length : Nat) : Int) - ((b.length : Nat) : Int)) + ((b.length : Nat) : Int) + 1).toNat (slide a b ((a.length : Nat) : Int) (((a.length : Nat) : Int) - ((b.length : Nat) : Int))))]).length) 1]) rfl rfl rfl Try.sizeOf34 rfl st3_75 hH81 rfl rfl rfl rfl rfl rfl ?_
  intro w82 m83 st3_84
  have hE_85 := hE_74.trans (m83.ext hE_74.size (by omega))
  have hH86 := m83.has
  refine FWl.nil (hK5 _ _ ?_)
  clear hK5 K5
  refine FW.seq_k fun K6 hK6 => ?_
  refine FW.seq_k fun K7 hK7 => ?_
  refine FW.region rfl ?_
  refine FWl.val 42 rfl rfl (Value.slice (some ⟨g21, 0, none⟩) (((List.replicate (a.length + b.length + 3) (1073741824 : Int)).set ((((a.length : Nat) : Int) - ((b.length : Nat) : Int)) + ((b.length : Nat) : Int) + 1).toNat (slide a b ((a.length : Nat) : Int) (((a.length : Nat) : Int) - ((b.length : Nat) : Int)))).length) (((List.replicate (a.length + b.length + 3) (1073741824 : Int)).set ((((a.length : Nat) : Int) - ((b.length : Nat) : Int)) + ((b.length : Nat) : Int) + 1).toNat (slide a b ((a.length : Nat) : Int) (((a.length : Nat) : Int) - ((b.length : Nat) : Int)))).length)) _ (r_move) ?_
  refine FWl.val 43 rfl rfl (Value.pointer (some ⟨g1, 0, none⟩)) _ (r_move) ?_
  refine FWl.call 44 rfl rfl 46 #[Value.pointer (some ⟨g1, 0, none⟩), Value.int .i64 0] (r_call2 Try.call46 rfl rfl rfl) ((slot_c hH86 st3_84 hsa_76 hsb_77 hs70 (k := 0) (by omega) (by omega)).mono ?_)
  rintro _ w87 ⟨rfl, e88⟩
  have hsz89 := e88.size
  have hE_90 := hE_85.step e88
  have st3_91 := st3_84.call e88
  have hH92 := e88.has
  obtain ⟨x93, hx94⟩ := get_some (xs := ((List.replicate (a.length + b.length + 3) (1073741824 : Int)).set ((((a.length : Nat) : Int) - ((b.length : Nat) : Int)) + ((b.length : Nat) : Int) + 1).toNat (slide a b ((a.length : Nat) : Int) (((a.length : Nat) : Int) - ((b.length : Nat) : Int))))) (j := (0 + ((b.length : Nat) : Int) + 1).toNat) (by omega)
  obtain ⟨cs95, hr96, hg97⟩ := hs59_80.at_ _ _ hx94
  obtain rfl := hr96
  refine FWl.val 45 rfl rfl (ptrAt (some ⟨g21, 0, none⟩) ((0 + ((b.length : Nat) : Int) + 1).toNat * 1)) _ (r_indexAddr Try.underlying39 Try.sizeOf3 rfl rfl (hs59_80.isSome (by omega)) (by omega) (by omega)) ?_
  refine FWl.val 46 rfl rfl (Value.int .i64 x93) _ (r_loadG1 (i := 0) Try.isAgg3 hg97 rfl rfl hH92) ?_
  refine FWl.val 47 rfl rfl (Value.bool (decide (x93 ≠ 0))) _ (r_neq rfl rfl) ?_
  refine FWl.nil (hK7 _ _ ?_)
  clear hK7 K7
  refine FW.cond (decide (x93 ≠ 0)) rfl (fun hc98 => ?_) (fun hc98 => ?_)
  · have hp99 : x93 ≠ 0 := of_decide_eq_true hc98
    refine FW.block ?_
    have hd0 : 0 < ed a b := by have := mt (field0 h3 h4 0).2 (fun h => by have := (rd_of (by assumption)).symm.trans h; omega); omega
    refine FW.loop_m (fun msr T w100 => ∃ (C101 : Gh) (d : Nat) (A3 : Option Addr) (c3 : Nat), Holds T [(0, Value.slice A1 a.length c1), (1, Value.slice A2 b.length c2), (4, Value.pointer none), (5, Value.pointer (some ⟨g1, 0, none⟩)), (6, Value.slice (some ⟨g21, 0, none⟩) (((List.replicate (a.length + b.length + 3) (1073741824 : Int)).set ((((a.length : Nat) : Int) - ((b.length : Nat) : Int)) + ((b.length : Nat) : Int) + 1).toNat (slide a b ((a.length : Nat) : Int) (((a.length : Nat) : Int) - ((b.length : Nat) : Int)))).length) (((List.replicate (a.length + b.length + 3) (1073741824 : Int)).set ((((a.length : Nat) : Int) - ((b.length : Nat) : Int)) + ((b.length : Nat) : Int) + 1).toNat (slide a b ((a.length : Nat) : Int) (((a.length : Nat) : Int) - ((b.length : Nat) : Int)))).length)), (7, Value.slice A1 a.length c1), (8, Value.slice A2 b.length c2), (9, Value.agg #[Value.slice A1 a.length c1, Value.slice A2 b.length c2, Value.slice none 0 0]), (10, Value.pointer (some ⟨g1, 0, none⟩)), (11, Value.slice A9 (([1073741824]).length) 1), (12, Value.slice A1 a.length c1), (13, Value.int .i64 ((a.length : Nat) : Int)), (14, Value.slice A2 b.length c2), (15, Value.int .i64 ((b.length : Nat) : Int)), (16, Value.int .i64 (((a.length : Nat) : Int) + ((b.length : Nat) : Int))), (17, Value.int .i64 ((a.length + b.length + 3 : Nat) : Int)), (18, Value.slice (some ⟨g21, 0, none⟩) (((List.replicate (a.length + b.length + 3) (1073741824 : Int)).set ((((a.length : Nat) : Int) - ((b.length : Nat) : Int)) + ((b.length : Nat) : Int) + 1).toNat (slide a b ((a.length : Nat) : Int) (((a.length : Nat) : Int) - ((b.length : Nat) : Int)))).length) (((List.replicate (a.length + b.length + 3) (1073741824 : Int)).set ((((a.length : Nat) : Int) - ((b.length : Nat) : Int)) + ((b.length : Nat) : Int) + 1).toNat (slide a b ((a.length : Nat) : Int) (((a.length : Nat) : Int) - ((b.length : Nat) : Int)))).length)), (19, Value.slice (some ⟨g21, 0, none⟩) (((List.replicate (a.length + b.length + 3) (1073741824 : Int)).set ((((a.length : Nat) : Int) - ((b.length : Nat) : Int)) + ((b.length : Nat) : Int) + 1).toNat (slide a b ((a.length : Nat) : Int) (((a.length : Nat) : Int) - ((b.length : Nat) : Int)))).length) (((List.replicate (a.length + b.length + 3) (1073741824 : Int)).set ((((a.length : Nat) : Int) - ((b.length : Nat) : Int)) + ((b.length : Nat) : Int) + 1).toNat (slide a b ((a.length : Nat) : Int) (((a.length : Nat) : Int) - ((b.length : Nat) : Int)))).length)), (20, Value.pointer (some ⟨g1, 0, none⟩)), (21, Value.slice A1 a.length c1), (22, Value.int .i64 ((a.length : Nat) : Int)), (23, Value.slice A2 b.length c2), (24, Value.int .i64 ((b.length : Nat) : Int)), (25, Value.int .i64 (((a.length : Nat) : Int) - ((b.length : Nat) : Int))), (26, Value.int .i64 ((((a.length : Nat) : Int) - ((b.length : Nat) : Int)) + ((b.length : Nat) : Int) + 1)), (27, Value.pointer (some ⟨g1, 0, none⟩)), (28, Value.slice A1 a.length c1), (29, Value.int .i64 ((a.length : Nat) : Int)), (30, Value.slice A1 a.length c1), (31, Value.int .i64 ((a.length : Nat) : Int)), (32, Value.slice A2 b.length c2), (33, Value.int .i64 ((b.length : Nat) : Int)), (34, Value.int .i64 (((a.length : Nat) : Int) - ((b.length : Nat) : Int))), (35, Value.int .i64 (slide a b ((a.length : Nat) : Int) (((a.length : Nat) : Int) - ((b.length : Nat) : Int)))), (36, Value.pointer (some ⟨g21, ((((a.length : Nat) : Int) - ((b.length : Nat) : Int)) + ((b.length : Nat) : Int) + 1).toNat, none⟩)), (37, Value.pointer (some ⟨g1, 0, none⟩)), (38, Value.slice (some ⟨g21, 0, none⟩) (((List.replicate (a.length + b.length + 3) (1073741824 : Int)).set ((((a.length : Nat) : Int) - ((b.length : Nat) : Int)) + ((b.length : Nat) : Int) + 1).toNat (slide a b ((a.length : Nat) : Int) (((a.length : Nat) : Int) - ((b.length : Nat) : Int)))).length) (((List.replicate (a.length + b.length + 3) (1073741824 : Int)).set ((((a.length : Nat) : Int) - ((b.length : Nat) : Int)) + ((b.length : Nat) : Int) + 1).toNat (slide a b ((a.length : Nat) : Int) (((a.length : Nat) : Int) - ((b.length : Nat) : Int)))).length)), (39, Value.slice A67 (([((List.replicate (a.length + b.length + 3) (1073741824 : Int)).set ((((a.length : Nat) : Int) - ((b.length : Nat) : Int)) + ((b.length : Nat) : Int) + 1).toNat (slide a b ((a.length : Nat) : Int) (((a.length : Nat) : Int) - ((b.length : Nat) : Int))))]).length) 1), (40, Value.pointer (some ⟨g1, 0, none⟩)), (41, Value.pointer (some ⟨g1, 2, none⟩)), (42, Value.slice (some ⟨g21, 0, none⟩) (((List.replicate (a.length + b.length + 3) (1073741824 : Int)).set ((((a.length : Nat) : Int) - ((b.length : Nat) : Int)) + ((b.length : Nat) : Int) + 1).toNat (slide a b ((a.length : Nat) : Int) (((a.length : Nat) : Int) - ((b.length : Nat) : Int)))).length) (((List.replicate (a.length + b.length + 3) (1073741824 : Int)).set ((((a.length : Nat) : Int) - ((b.length : Nat) : Int)) + ((b.length : Nat) : Int) + 1).toNat (slide a b ((a.length : Nat) : Int) (((a.length : Nat) : Int) - ((b.length : Nat) : Int)))).length)), (43, Value.pointer (some ⟨g1, 0, none⟩)), (44, Value.int .i64 (0 + ((b.length : Nat) : Int) + 1)), (45, ptrAt (some ⟨g21, 0, none⟩) ((0 + ((b.length : Nat) : Int) + 1).toNat * 1)), (46, Value.int .i64 x93), (47, Value.bool (decide (x93 ≠ 0)))] ∧ Ext (w.heap.size) w87 C69 w100 C101 ∧ (St w100 C101 g1 [.slice A1 a.length c1, .slice A2 b.length c2, .slice A3 (rowsN a b d).length c3] 100) ∧ (Sl (kSl (kInt .i64)) C101 A3 c3 (rowsN a b d)) ∧ (Own w.heap.size 39 1 w100 C101 A3 (rowsN a b d).length c3) ∧ (d < ed a b) ∧ msr = ed a b - d) (ed a b - 0) ?_ ?_
    · exact ⟨C69, 0, A67, 1, ⟨rfl, rfl, rfl, rfl, rfl, rfl, rfl, rfl, rfl, rfl, rfl, rfl, rfl, rfl, rfl, rfl, rfl, rfl, rfl, rfl, rfl, rfl, rfl, rfl, rfl, rfl, rfl, rfl, rfl, rfl, rfl, rfl, rfl, rfl, rfl, rfl, rfl, rfl, rfl, rfl, rfl, rfl, rfl, rfl, rfl, rfl, trivial⟩, Ext.refl hH92, st3_91, hs70, Own.full, hd0, rfl⟩
    · rintro msr T w100 ⟨C101, d, A3, c3, hT, hL1, stf, hsr, ho, hd, rfl⟩
      refine FW.frame hT fun B1 => ?_
      have hE_102 := hE_90.trans hL1
      have hsa_103 := hsa_76.mono hL1.le
      have hsb_104 := hsb_77.mono hL1.le
      have hH111 := hL1.has
      refine FW.seq_k fun K8 hK8 => ?_
      refine FW.seq_k fun K9 hK9 => ?_
      refine FW.region rfl ?_
      refine FWl.val 48 rfl rfl (Value.pointer (some ⟨g1, 0, none⟩)) _ (r_move) ?_
      refine FWl.call 49 rfl rfl 47 #[Value.pointer (some ⟨g1, 0, none⟩)] (r_call1 Try.call47 rfl rfl) ((stepN_c (d := d) hH111 stf hsa_103 hsb_104 hsr ho (by omega) h3 h4 (by omega)).mono ?_)
      rintro _ w119 ⟨C112, A113, c114, rfl, e115, s116, hs117, ho118⟩
      have hE_120 := hE_102.trans e115
      have hL1_121 := hL1.trans e115
      have hH131 := e115.has
      refine FWl.val 50 rfl rfl (Value.bool (!(decide (ed a b ≤ d + 1)))) _ (r_not rfl) ?_
      refine FWl.nil (hK9 _ _ ?_)
      clear hK9 K9
      refine FW.cond (!(decide (ed a b ≤ d + 1))) rfl (fun hc132 => ?_) (fun hc132 => ?_)
      · have hp133 : ¬ (ed a b ≤ d + 1) := by simpa using hc132
        refine FW.skip (hK8 _ _ ?_)
        clear hK8 K8
        refine FW.block ?_
        refine FW.exit (inBlockF_hit (thenF_norm (?_)))
        refine ⟨_, ⟨C112, d + 1, A113, c114, ⟨rfl, rfl, rfl, rfl, rfl, rfl, rfl, rfl, rfl, rfl, rfl, rfl, rfl, rfl, rfl, rfl, rfl, rfl, rfl, rfl, rfl, rfl, rfl, rfl, rfl, rfl, rfl, rfl, rfl, rfl, rfl, rfl, rfl, rfl, rfl, rfl, rfl, rfl, rfl, rfl, rfl, rfl, rfl, rfl, rfl, rfl, trivial⟩, hL1_121, s116, hs117, ho118, by omega, rfl⟩, ?_⟩
        omega
      · have hp134 : ed a b ≤ d + 1 := by simpa using hc132
        refine FW.exit (thenF_exit (thenF_exit (inBlockF_hit (hK6 _ _ ?_))))
        clear hK6 K6 hK8 K8
        refine FW.seq_k fun K10 hK10 => ?_
        refine FW.region rfl ?_
        refine FWl.val 51 rfl rfl (Value.pointer (some ⟨g1, 0, none⟩)) _ (r_move) ?_
        refine FWl.val 4 rfl rfl (Value.pointer (some ⟨g1, 0, none⟩)) _ (r_assign) ?_
        refine FWl.nil (hK10 _ _ ?_)
        clear hK10 K10
        refine FW.ret (?_)
        refine ret_tmp (v := Value.pointer (some ⟨g1, 0, none⟩)) Try.results24 (.inl rfl) rfl ?_
        have hd' : ed a b = d + 1 := by omega
        obtain ⟨C135, m136, hcg137⟩ := s116.commit hH131
        have hE_138 := hE_120.trans (m136.ext hE_120.size (by omega))
        have hs117_150 := hs117.mono m136.le
        rw [hd']
        exact ⟨C135, g1, A113, c114, rfl, hE_138, hcg137, hs117_150⟩
  · have hp151 : ¬ (x93 ≠ 0) := of_decide_eq_false hc98
    refine FW.skip (hK6 _ _ ?_)
    clear hK6 K6
    refine FW.seq_k fun K11 hK11 => ?_
    refine FW.region rfl ?_
    refine FWl.val 51 rfl rfl (Value.pointer (some ⟨g1, 0, none⟩)) _ (r_move) ?_
    refine FWl.val 4 rfl rfl (Value.pointer (some ⟨g1, 0, none⟩)) _ (r_assign) ?_
    refine FWl.nil (hK11 _ _ ?_)
    clear hK11 K11
    refine FW.ret (?_)
    refine ret_tmp (v := Value.pointer (some ⟨g1, 0, none⟩)) Try.results24 (.inl rfl) rfl ?_
    have hd' : ed a b = 0 := by have := (field0 h3 h4 0).1 ((rd_of (by assumption)).trans (by omega)); omega
    obtain ⟨C152, m153, hcg154⟩ := st3_91.commit hH92
    have hE_155 := hE_90.trans (m153.ext hE_90.size (by omega))
    have hs70_162 := hs70.mono m153.le
    rw [hd']
    exact ⟨C152, g1, A67, 1, rfl, hE_155, hcg154, hs70_162⟩

theorem walk_p {A1 A2 A3 : Option Addr} {c1 c2 c3 gf : Nat} {a b : List Int} {fd B : Nat} {cap : Array Value} {R : World → Gh → List (Int × Int × Int) → Prop} {w : World} {C : Gh} (hH : Has w C) (hcg : CellsG C (some ⟨gf, 0, none⟩) 0 [.slice A1 a.length c1, .slice A2 b.length c2, .slice A3 (rowsN a b (ed a b)).length c3]) (hsa : Sl (kInt .i64) C A1 c1 a) (hsb : Sl (kInt .i64) C A2 c2 b) (hsr : Sl (kSl (kInt .i64)) C A3 c3 (rowsN a b (ed a b))) (h3 : a.length ≤ 400) (h4 : b.length ≤ 400) (hB0 : B ≤ w.heap.size) (hcall : ∀ (args : Array Value) (w : World), (callFunc fd args).run Try.prog w = .ok (.enter fd args) w) (hRc : ∀ w C w' C' l, R w C l → Ext w.heap.size w C w' C' → R w' C' l) (hdo : ∀ w C l (s i j : Int), Has w C → R w C l → B ≤ w.heap.size → 1 ≤ s ∧ s ≤ 3 → 0 ≤ i ∧ i ≤ 1000 → 0 ≤ j ∧ j ≤ 1000 → l.length ≤ 1000 → Ret Try.prog fd (#[.int .i64 s, .int .i64 i, .int .i64 j] ++ cap) w fun v w' => v = .tuple #[] ∧ ∃ C', Ext B w C w' C' ∧ R w' C' (l ++ [(s, i, j)])) (hR : R w C []) : Ret Try.prog 25 #[Value.pointer (some ⟨gf, 0, none⟩), .func (.func fd) #[] cap] w fun v w' => v = .tuple #[] ∧ ∃ C', Ext B w C w' C' ∧ R w' C' (evs a b 0 0) := by
  refine Ret.of Try.func25 rfl Try.ntmps25 rfl ?_
  have hE := Ext.refl (B := B) hH; have hal := hsa.bd; have hbl := hsb.bd; have hedl := ed_len a b; have hrn := rowsN_len a b (ed a b); have hel := evs_len a b 0 0
  have hE0 : E a b 0 0 = ed a b := by simp [E]
  have ha1 := Ext.refl (B := w.heap.size) hH
  refine FW.seq_k fun K1 hK1 => ?_
  refine FW.region rfl ?_
  refine FWl.val 7 rfl rfl (Value.pointer (some ⟨gf, 0, none⟩)) _ (r_move) ?_
  refine FWl.call 8 rfl rfl 48 #[Value.pointer (some ⟨gf, 0, none⟩)] (r_call1 Try.call48 rfl rfl) ((steps_p hH hcg hsa hsb hsr ).mono ?_)
  rintro _ w2 ⟨rfl, e3⟩
  have hE_4 := hE.trans (e3.mono (Nat.le_trans hB0 hE.size))
  have ha1_5 := ha1.step e3
  have hH6 := e3.has
  refine FWl.val 4 rfl rfl (Value.int .i64 0) _ (r_assign) ?_
  refine FWl.val 5 rfl rfl (Value.int .i64 0) _ (r_assign) ?_
  refine FWl.val 6 rfl rfl (Value.int .i64 (((rowsN a b (ed a b)).length : Int) - 1)) _ (r_assign) ?_
  refine FWl.nil (hK1 _ _ ?_)
  clear hK1 K1
  refine FW.block ?_
  have hA7 := hRc _ _ _ _ _ hR ha1_5
  refine FW.loop_m (fun msr T w8 => ∃ (C9 : Gh) (i : Int) (j : Int) (q : Int) (l : List (Int × Int × Int)), Holds T [(0, Value.pointer (some ⟨gf, 0, none⟩)), (1, Value.func (.func fd) #[] cap), (4, Value.int .i64 i), (5, Value.int .i64 j), (6, Value.int .i64 q), (7, Value.pointer (some ⟨gf, 0, none⟩)), (8, Value.int .i64 (((rowsN a b (ed a b)).length : Int) - 1))] ∧ Ext (B) w2 C w8 C9 ∧ (R w8 C9 l) ∧ (0 ≤ i ∧ i ≤ (a.length : Int) ∧ 0 ≤ j ∧ j ≤ (b.length : Int)) ∧ (q = (E a b i j : Int)) ∧ (E a b i j ≤ ed a b) ∧ (l ++ evsAt a b i j = evs a b 0 0) ∧ msr = (a.length + b.length - i - j).toNat) (((a.length : Int) + b.length - 0 - 0).toNat) ?_ ?_
  · exact ⟨C, 0, 0, _, [], ⟨rfl, rfl, rfl, rfl, rfl, rfl, rfl, trivial⟩, Ext.refl hH6, hA7, ⟨by omega, by omega, by omega, by omega⟩, by omega, by omega, by simp [evsAt], rfl⟩
  · rintro msr T w8 ⟨C9, i, j, q, l, hT, hL1, hRl, hij, hq, hqd, hev, rfl⟩
    refine FW.frame hT fun B1 => ?_
    have hE_10 := hE_4.trans hL1
    have hsa_11 := hsa.mono hL1.le
    have hsb_12 := hsb.mono hL1.le
    have hsr_13 := hsr.mono hL1.le
    have hcg_14 := hcg.mono hL1.le
    have hH15 := hL1.has
    have ha16 := Ext.refl (B := w8.heap.size) hH15
    have hll : l.length + (evsAt a b i j).length = (evs a b 0 0).length := by rw [← hev, List.length_append]
    refine FW.seq_k fun K2 hK2 => ?_
    refine FW.seq_k fun K3 hK3 => ?_
    refine FW.region rfl ?_
    refine FWl.val 9 rfl rfl (Value.int .i64 i) _ (r_move) ?_
    refine FWl.val 10 rfl rfl (Value.pointer (some ⟨gf, 0, none⟩)) _ (r_move) ?_
    refine FWl.val 11 rfl rfl (Value.pointer (some ⟨gf, 0, none⟩)) _ (r_nilCheck rfl) ?_
    refine FWl.val 12 rfl rfl (Value.pointer (some ⟨gf, 0, none⟩)) _ (r_fieldAddrS Try.underlying100 rfl Try.sizeOf39 rfl rfl rfl rfl) ?_
    refine FWl.val 13 rfl rfl (Value.slice A1 a.length c1) _ (r_loadP1 Try.isAgg39 hcg_14 rfl rfl hH15) ?_
    refine FWl.val 14 rfl rfl (Value.int .i64 ((a.length : Nat) : Int)) _ (r_lenSl Try.underlying39 rfl) ?_
    refine FWl.val 15 rfl rfl (Value.bool (decide (i < ((a.length : Nat) : Int)))) _ (r_lss rfl rfl) ?_
    refine FWl.val 16 rfl rfl (Value.bool (decide (i < ((a.length : Nat) : Int)))) _ (r_move) ?_
    cases hb17 : (decide (i < ((a.length : Nat) : Int))) with
    | true =>
      have hp18 : i < ((a.length : Nat) : Int) := of_decide_eq_true hb17
      refine FWl.skip 17 rfl rfl ?_
      refine FWl.skip 18 rfl rfl ?_
      refine FWl.skip 19 rfl rfl ?_
      refine FWl.skip 20 rfl rfl ?_
      refine FWl.skip 21 rfl rfl ?_
      refine FWl.skip 22 rfl rfl ?_
      refine FWl.skip 23 rfl rfl ?_
      refine FWl.val 24 rfl rfl (Value.bool true) _ (r_pick (t := true) rfl) ?_
      refine FWl.nil (hK3 _ _ ?_)
      clear hK3 K3
      refine FW.cond true rfl (fun _ => ?_) (fun h => nomatch h)
      refine FW.skip (hK2 _ _ ?_)
      clear hK2 K2
      refine FW.block ?_
      refine FW.block ?_
      refine FW.seq_k fun K4 hK4 => ?_
      refine FW.regionDraw mixed (SS C9 (fun _ => True) w8.drew) [] [(0, true), (1, false), (2, false), (3, false), (4, false), (5, false), (6, false), (7, false), (8, true), (9, false), (10, false), (11, false), (12, false), (13, false), (14, false), (15, false), (16, false), (17, true), (18, true), (19, true), (20, true), (21, true), (22, true), (23, true), (24, true), (25, true), (26, true), (27, true), (28, false), (29, false), (30, false), (31, false), (32, false), (33, false)] rfl (by kernel_rfl) ?_
      have e20 : Ext w8.heap.size w8 C9 w8.drew C9 := (Ext.refl hH15).drew
      generalize w8.drew = w19 at *
      have hE_21 := hE_10.trans (e20.mono (Nat.le_trans hB0 hE_10.size))
      have ha16_22 := ha16.step e20
      have hL1_23 := hL1.trans (e20.mono (Nat.le_trans hB0 hE_10.size))
      have hH24 := e20.has
      have hS25 : SS C9 (fun _ => True) w19 w19 := SS.refl hH24
      have hle26 := Gle.refl C9
      refine FWs.take rfl 34 rfl rfl (Value.int .i64 i) hS25 (fun _ _ => r_move) ?_
      refine FWs.val rfl 35 rfl rfl (Value.pointer (some ⟨gf, 0, none⟩)) _ (r_move) (.inr hS25) ?_
      refine FWs.val rfl 36 rfl rfl (Value.pointer (some ⟨gf, 0, none⟩)) _ (r_nilCheck rfl) (.inr hS25) ?_
      refine FWs.val rfl 37 rfl rfl (Value.pointer (some ⟨gf, 0, none⟩)) _ (r_fieldAddrS Try.underlying100 rfl Try.sizeOf39 rfl rfl rfl rfl) (.inr hS25) ?_
      refine FWs.val rfl 38 rfl rfl (Value.slice A1 a.length c1) _ (r_loadP1 Try.isAgg39 hcg_14 rfl rfl hH24) (.inr hS25) ?_
      refine FWs.val rfl 39 rfl rfl (Value.int .i64 ((a.length : Nat) : Int)) _ (r_lenSl Try.underlying39 rfl) (.inr hS25) ?_
      refine FWs.val rfl 40 rfl rfl (Value.bool (decide (i < ((a.length : Nat) : Int)))) _ (r_lss rfl rfl) (.inr hS25) ?_
      refine FWs.val rfl 41 rfl rfl (Value.bool (decide (i < ((a.length : Nat) : Int)))) _ (r_move) (.inr hS25) ?_
      cases hb27 : (decide (i < ((a.length : Nat) : Int))) with
      | true =>
        have hp28 : i < ((a.length : Nat) : Int) := of_decide_eq_true hb27
        refine FWs.take rfl 42 rfl rfl (Value.int .i64 j) hS25 (fun _ _ => r_move) ?_
        refine FWs.val rfl 43 rfl rfl (Value.pointer (some ⟨gf, 0, none⟩)) _ (r_move) (.inr hS25) ?_
        refine FWs.val rfl 44 rfl rfl (Value.pointer (some ⟨gf, 0, none⟩)) _ (r_nilCheck rfl) (.inr hS25) ?_
        refine FWs.val rfl 45 rfl rfl (Value.pointer (some ⟨gf, 1, none⟩)) _ (r_fieldAddrS Try.underlying100 rfl Try.sizeOf39 rfl rfl rfl rfl) (.inr hS25) ?_
        refine FWs.val rfl 46 rfl rfl (Value.slice A2 b.length c2) _ (r_loadP1 Try.isAgg39 hcg_14 rfl rfl hH24) (.inr hS25) ?_
        refine FWs.val rfl 47 rfl rfl (Value.int .i64 ((b.length : Nat) : Int)) _ (r_lenSl Try.underlying39 rfl) (.inr hS25) ?_
        refine FWs.val rfl 48 rfl rfl (Value.bool (decide (j < ((b.length : Nat) : Int)))) _ (r_lss rfl rfl) (.inr hS25) ?_
        refine FWs.val rfl 49 rfl rfl (Value.bool (decide (j < ((b.length : Nat) : Int)))) _ (r_pick (t := true) rfl) (.inr hS25) ?_
        refine FWs.val rfl 50 rfl rfl (Value.bool (decide (j < ((b.length : Nat) : Int)))) _ (r_move) (.inr hS25) ?_
        cases hb29 : (decide (j < ((b.length : Nat) : Int))) with
        | true =>
          have hp30 : j < ((b.length : Nat) : Int) := of_decide_eq_true hb29
          refine FWs.take rfl 51 rfl rfl (Value.pointer (some ⟨gf, 0, none⟩)) hS25 (fun _ _ => r_move) ?_
          refine FWs.take rfl 52 rfl rfl (Value.pointer (some ⟨gf, 0, none⟩)) hS25 (fun _ _ => r_nilCheck rfl) ?_
          refine FWs.take rfl 53 rfl rfl (Value.pointer (some ⟨gf, 0, none⟩)) hS25 (fun _ _ => r_fieldAddrS Try.underlying100 rfl Try.sizeOf39 rfl rfl rfl rfl) ?_
          refine FWs.take rfl 54 rfl rfl (Value.slice A1 a.length c1) hS25 (fun _ hS' => r_loadP1 Try.isAgg39 hcg_14 rfl rfl hS'.has) ?_
          refine FWs.take rfl 55 rfl rfl (Value.int .i64 i) hS25 (fun _ _ => r_move) ?_
          obtain ⟨x31, hx32⟩ := get_some (xs := a) (j := (i).toNat) (by omega)
          obtain ⟨cs33, hr34, hg35⟩ := hsa_11.at_ _ _ hx32
          obtain rfl := hr34
          have hra := rd_of hx32
          refine FWs.take rfl 56 rfl rfl (ptrAt A1 ((i).toNat * 1)) hS25 (fun _ _ => r_indexAddr Try.underlying39 Try.sizeOf3 rfl rfl (hsa_11.isSome (by omega)) (by omega) (by omega)) ?_
          refine FWs.take rfl 57 rfl rfl (Value.int .i64 x31) hS25 (fun _ hS' => r_loadG1 (i := 0) Try.isAgg3 hg35 rfl rfl hS'.has) ?_
          refine FWs.take rfl 58 rfl rfl (Value.pointer (some ⟨gf, 0, none⟩)) hS25 (fun _ _ => r_move) ?_
          refine FWs.take rfl 59 rfl rfl (Value.pointer (some ⟨gf, 0, none⟩)) hS25 (fun _ _ => r_nilCheck rfl) ?_
          refine FWs.take rfl 60 rfl rfl (Value.pointer (some ⟨gf, 1, none⟩)) hS25 (fun _ _ => r_fieldAddrS Try.underlying100 rfl Try.sizeOf39 rfl rfl rfl rfl) ?_
          refine FWs.take rfl 61 rfl rfl (Value.slice A2 b.length c2) hS25 (fun _ hS' => r_loadP1 Try.isAgg39 hcg_14 rfl rfl hS'.has) ?_
          refine FWs.val rfl 62 rfl rfl (Value.int .i64 j) _ (r_move) (.inr hS25) ?_
          obtain ⟨x36, hx37⟩ := get_some (xs := b) (j := (j).toNat) (by omega)
          obtain ⟨cs38, hr39, hg40⟩ := hsb_12.at_ _ _ hx37
          obtain rfl := hr39
          have hrb := rd_of hx37
          refine FWs.val rfl 63 rfl rfl (ptrAt A2 ((j).toNat * 1)) _ (r_indexAddr Try.underlying39 Try.sizeOf3 rfl rfl (hsb_12.isSome (by omega)) (by omega) (by omega)) (.inr hS25) ?_
          refine FWs.val rfl 64 rfl rfl (Value.int .i64 x36) _ (r_loadG1 (i := 0) Try.isAgg3 hg40 rfl rfl hH24) (.inr hS25) ?_
          refine FWs.val rfl 65 rfl rfl (Value.bool (decide (x31 = x36))) _ (r_eql rfl rfl) (.inr hS25) ?_
          refine FWs.val rfl 66 rfl rfl (Value.bool (decide (x31 = x36))) _ (r_pick (t := true) rfl) (.inr hS25) ?_
          refine FWs.val rfl 33 rfl rfl (Value.bool (decide (x31 = x36))) _ (r_assign) (.inr hS25) ?_
          refine FWs.nil (hK4 _ _ ?_)
          clear hK4 K4
          refine FW.cond (decide (x31 = x36)) rfl (fun hc41 => ?_) (fun hc41 => ?_)
          · have hp42 : x31 = x36 := of_decide_eq_true hc41
            refine FW.seq_k fun K5 hK5 => ?_
            refine FW.region rfl ?_
            refine FWl.val 67 rfl rfl (Value.func (.func fd) #[] cap) _ (r_move) ?_
            refine FWl.val 68 rfl rfl (Value.int .i64 i) _ (r_move) ?_
            refine FWl.val 69 rfl rfl (Value.int .i64 j) _ (r_move) ?_
            have hA47 := hRc _ _ _ _ _ hRl ha16_22
            refine FWl.call 70 rfl rfl fd (#[Value.int .i64 1, Value.int .i64 i, Value.int .i64 j] ++ cap) (r_callV3 hcall rfl rfl rfl rfl rfl) ((hdo _ _ l 1 i j hH24 hA47 (Nat.le_trans hB0 hE_21.size) (by omega) (by omega) (by omega) (by omega)).mono ?_)
            rintro _ w46 ⟨rfl, C43, e44, hR45⟩
            have hL1_49 := hL1_23.trans e44
            have hH56 := e44.has
            have ha57 := Ext.refl (B := w46.heap.size) hH56
            refine FWl.nil (hK5 _ _ ?_)
            clear hK5 K5
            refine FW.region rfl ?_
            refine FWl.val 71 rfl rfl (Value.int .i64 i) _ (r_move) ?_
            refine FWl.val 72 rfl rfl (Value.int .i64 (i + 1)) _ (r_addI rfl rfl (by omega) (by omega)) ?_
            refine FWl.val 73 rfl rfl (Value.int .i64 j) _ (r_move) ?_
            refine FWl.val 74 rfl rfl (Value.int .i64 (j + 1)) _ (r_addI rfl rfl (by omega) (by omega)) ?_
            refine FWl.val 4 rfl rfl (Value.int .i64 (i + 1)) _ (r_assign) ?_
            refine FWl.val 5 rfl rfl (Value.int .i64 (j + 1)) _ (r_assign) ?_
            refine FWl.nil (inBlockF_norm (inBlockF_norm (thenF_norm (?_))))
            have hst := evsAt_keep (a := a) (b := b) (i := i) (j := j) (by omega) (by omega) (by omega) (by omega) (by omega)
            have hA58 := hRc _ _ _ _ _ hR45 ha57
            refine ⟨_, ⟨C43, i + 1, j + 1, q, (l ++ [(1, i, j)]), ⟨rfl, rfl, rfl, rfl, rfl, rfl, rfl, trivial⟩, hL1_49, hA58, ⟨by omega, by omega, by omega, by omega⟩, by omega, by omega, by rw [← hev, hst.1]; simp, rfl⟩, ?_⟩
            omega
          · have hp59 : ¬ (x31 = x36) := of_decide_eq_false hc41
            refine FW.seq_k fun K6 hK6 => ?_
            refine FW.region rfl ?_
            refine FWl.val 76 rfl rfl (Value.int .i64 i) _ (r_move) ?_
            refine FWl.val 77 rfl rfl (Value.pointer (some ⟨gf, 0, none⟩)) _ (r_move) ?_
            refine FWl.val 78 rfl rfl (Value.pointer (some ⟨gf, 0, none⟩)) _ (r_nilCheck rfl) ?_
            refine FWl.val 79 rfl rfl (Value.pointer (some ⟨gf, 0, none⟩)) _ (r_fieldAddrS Try.underlying100 rfl Try.sizeOf39 rfl rfl rfl rfl) ?_
            refine FWl.val 80 rfl rfl (Value.slice A1 a.length c1) _ (r_loadP1 Try.isAgg39 hcg_14 rfl rfl hH24) ?_
            refine FWl.val 81 rfl rfl (Value.int .i64 ((a.length : Nat) : Int)) _ (r_lenSl Try.underlying39 rfl) ?_
            refine FWl.val 82 rfl rfl (Value.bool (decide (i < ((a.length : Nat) : Int)))) _ (r_lss rfl rfl) ?_
            refine FWl.val 83 rfl rfl (Value.bool (decide (i < ((a.length : Nat) : Int)))) _ (r_move) ?_
            cases hb60 : (decide (i < ((a.length : Nat) : Int))) with
            | true =>
              have hp61 : i < ((a.length : Nat) : Int) := of_decide_eq_true hb60
              refine FWl.val 84 rfl rfl (Value.pointer (some ⟨gf, 0, none⟩)) _ (r_move) ?_
              refine FWl.val 85 rfl rfl (Value.int .i64 i) _ (r_move) ?_
              refine FWl.val 86 rfl rfl (Value.int .i64 (i + 1)) _ (r_addI rfl rfl (by omega) (by omega)) ?_
              refine FWl.val 87 rfl rfl (Value.int .i64 j) _ (r_move) ?_
              refine FWl.val 88 rfl rfl (Value.int .i64 q) _ (r_move) ?_
              refine FWl.val 89 rfl rfl (Value.int .i64 (q - 1)) _ (r_subI rfl rfl (by omega) (by omega)) ?_
              refine FWl.call 90 rfl rfl 49 #[Value.pointer (some ⟨gf, 0, none⟩), Value.int .i64 (i + 1), Value.int .i64 j, Value.int .i64 (q - 1)] (r_call4 Try.call49 rfl rfl rfl rfl rfl) ((within_p hH24 hcg_14 hsa_11 hsb_12 hsr_13 (i := i + 1) (j := j) (q := q - 1) (fun r hr => by obtain ⟨q, hq⟩ := rowsN_good h3 h4 r hr; exact hq.len) (by omega) (by omega) (by omega) h3 h4 (by omega)).mono ?_)
              rintro _ w62 ⟨rfl, e63⟩
              have hE_64 := hE_21.trans (e63.mono (Nat.le_trans hB0 hE_21.size))
              have ha16_65 := ha16_22.step e63
              have hL1_66 := hL1_23.trans (e63.mono (Nat.le_trans hB0 hE_21.size))
              have hH67 := e63.has
              refine FWl.val 91 rfl rfl (Value.bool (withinS b (rowsN a b (ed a b)) (i + 1) j (q - 1))) _ (r_pick (t := true) rfl) ?_
              refine FWl.val 75 rfl rfl (Value.bool (withinS b (rowsN a b (ed a b)) (i + 1) j (q - 1))) _ (r_assign) ?_
              refine FWl.nil (hK6 _ _ ?_)
              clear hK6 K6
              refine FW.cond (withinS b (rowsN a b (ed a b)) (i + 1) j (q - 1)) rfl (fun hc68 => ?_) (fun hc68 => ?_)
              · refine FW.seq_k fun K7 hK7 => ?_
                refine FW.region rfl ?_
                refine FWl.val 92 rfl rfl (Value.func (.func fd) #[] cap) _ (r_move) ?_
                refine FWl.val 93 rfl rfl (Value.int .i64 i) _ (r_move) ?_
                refine FWl.val 94 rfl rfl (Value.int .i64 j) _ (r_move) ?_
                have hA74 := hRc _ _ _ _ _ hRl ha16_65
                refine FWl.call 95 rfl rfl fd (#[Value.int .i64 2, Value.int .i64 i, Value.int .i64 j] ++ cap) (r_callV3 hcall rfl rfl rfl rfl rfl) ((hdo _ _ l 2 i j hH67 hA74 (Nat.le_trans hB0 hE_64.size) (by omega) (by omega) (by omega) (by omega)).mono ?_)
                rintro _ w73 ⟨rfl, C70, e71, hR72⟩
                have hL1_76 := hL1_66.trans e71
                have hH83 := e71.has
                have ha84 := Ext.refl (B := w73.heap.size) hH83
                refine FWl.nil (hK7 _ _ ?_)
                clear hK7 K7
                refine FW.region rfl ?_
                refine FWl.val 96 rfl rfl (Value.int .i64 i) _ (r_move) ?_
                refine FWl.val 97 rfl rfl (Value.int .i64 (i + 1)) _ (r_addI rfl rfl (by omega) (by omega)) ?_
                refine FWl.val 98 rfl rfl (Value.int .i64 q) _ (r_move) ?_
                refine FWl.val 99 rfl rfl (Value.int .i64 (q - 1)) _ (r_subI rfl rfl (by omega) (by omega)) ?_
                refine FWl.val 4 rfl rfl (Value.int .i64 (i + 1)) _ (r_assign) ?_
                refine FWl.val 6 rfl rfl (Value.int .i64 (q - 1)) _ (r_assign) ?_
                refine FWl.nil (inBlockF_norm (inBlockF_norm (thenF_norm (?_))))
                have hneq : ¬ (j < (b.length : Int) ∧ rd a i = rd b j) := by first | (intro h; omega)
                have hwi : E a b (i + 1) j + 1 ≤ E a b i j := by have := (within_iff h3 h4 (d := ed a b) (i := i + 1) (j := j) (q := q - 1) (by omega) (by omega) (by omega) (by omega) (by omega)).1 (by assumption); omega
                have hst := evsAt_out (a := a) (b := b) (i := i) (j := j) (by omega) (by omega) (by omega) (by omega) hneq hwi
                have hA85 := hRc _ _ _ _ _ hR72 ha84
                refine ⟨_, ⟨C70, i + 1, j, q - 1, (l ++ [(2, i, j)]), ⟨rfl, rfl, rfl, rfl, rfl, rfl, rfl, trivial⟩, hL1_76, hA85, ⟨by omega, by omega, by omega, by omega⟩, by omega, by omega, by rw [← hev, hst.1]; simp, rfl⟩, ?_⟩
                omega
              · refine FW.seq_k fun K8 hK8 => ?_
                refine FW.region rfl ?_
                refine FWl.val 25 rfl rfl (Value.func (.func fd) #[] cap) _ (r_move) ?_
                refine FWl.val 26 rfl rfl (Value.int .i64 i) _ (r_move) ?_
                refine FWl.val 27 rfl rfl (Value.int .i64 j) _ (r_move) ?_
                have hA91 := hRc _ _ _ _ _ hRl ha16_65
                refine FWl.call 28 rfl rfl fd (#[Value.int .i64 3, Value.int .i64 i, Value.int .i64 j] ++ cap) (r_callV3 hcall rfl rfl rfl rfl rfl) ((hdo _ _ l 3 i j hH67 hA91 (Nat.le_trans hB0 hE_64.size) (by omega) (by omega) (by omega) (by omega)).mono ?_)
                rintro _ w90 ⟨rfl, C87, e88, hR89⟩
                have hL1_93 := hL1_66.trans e88
                have hH100 := e88.has
                have ha101 := Ext.refl (B := w90.heap.size) hH100
                refine FWl.nil (hK8 _ _ ?_)
                clear hK8 K8
                refine FW.region rfl ?_
                refine FWl.val 29 rfl rfl (Value.int .i64 j) _ (r_move) ?_
                refine FWl.val 30 rfl rfl (Value.int .i64 (j + 1)) _ (r_addI rfl rfl (by omega) (by omega)) ?_
                refine FWl.val 31 rfl rfl (Value.int .i64 q) _ (r_move) ?_
                refine FWl.val 32 rfl rfl (Value.int .i64 (q - 1)) _ (r_subI rfl rfl (by omega) (by omega)) ?_
                refine FWl.val 5 rfl rfl (Value.int .i64 (j + 1)) _ (r_assign) ?_
                refine FWl.val 6 rfl rfl (Value.int .i64 (q - 1)) _ (r_assign) ?_
                refine FWl.nil (inBlockF_norm (inBlockF_norm (thenF_norm (?_))))
                have hneq : ¬ (i < (a.length : Int) ∧ j < (b.length : Int) ∧ rd a i = rd b j) := by first | (intro h; omega)
                have hwi : ¬ (i < (a.length : Int) ∧ E a b (i + 1) j + 1 ≤ E a b i j) := by first | (intro h; omega) | (rintro ⟨h, h'⟩; have := (within_iff h3 h4 (d := ed a b) (i := i + 1) (j := j) (q := q - 1) (by omega) (by omega) (by omega) (by omega) (by omega)).2 ⟨by omega, by omega⟩; simp_all)
                have hjb := (evsAt_in (a := a) (b := b) (i := i) (j := j) (by omega) (by omega) (by omega) (by omega) (by omega) hneq hwi).1
                have hst := (evsAt_in (a := a) (b := b) (i := i) (j := j) (by omega) (by omega) (by omega) (by omega) (by omega) hneq hwi).2
                have hA102 := hRc _ _ _ _ _ hR89 ha101
                refine ⟨_, ⟨C87, i, j + 1, q - 1, (l ++ [(3, i, j)]), ⟨rfl, rfl, rfl, rfl, rfl, rfl, rfl, trivial⟩, hL1_93, hA102, ⟨by omega, by omega, by omega, by omega⟩, by omega, by omega, by rw [← hev, hst.1]; simp, rfl⟩, ?_⟩
                omega
            | false =>
              have hp103 : ¬ (i < ((a.length : Nat) : Int)) := of_decide_eq_false hb60
              refine FWl.skip 84 rfl rfl ?_
              refine FWl.skip 85 rfl rfl ?_
              refine FWl.skip 86 rfl rfl ?_
              refine FWl.skip 87 rfl rfl ?_
              refine FWl.skip 88 rfl rfl ?_
              refine FWl.skip 89 rfl rfl ?_
              refine FWl.skip 90 rfl rfl ?_
              refine FWl.val 91 rfl rfl (Value.bool false) _ (r_pick (t := false) rfl) ?_
              refine FWl.val 75 rfl rfl (Value.bool false) _ (r_assign) ?_
              refine FWl.nil (hK6 _ _ ?_)
              clear hK6 K6
              refine FW.cond false rfl (fun h => nomatch h) (fun _ => ?_)
              refine FW.seq_k fun K9 hK9 => ?_
              refine FW.region rfl ?_
              refine FWl.val 25 rfl rfl (Value.func (.func fd) #[] cap) _ (r_move) ?_
              refine FWl.val 26 rfl rfl (Value.int .i64 i) _ (r_move) ?_
              refine FWl.val 27 rfl rfl (Value.int .i64 j) _ (r_move) ?_
              have hA108 := hRc _ _ _ _ _ hRl ha16_22
              refine FWl.call 28 rfl rfl fd (#[Value.int .i64 3, Value.int .i64 i, Value.int .i64 j] ++ cap) (r_callV3 hcall rfl rfl rfl rfl rfl) ((hdo _ _ l 3 i j hH24 hA108 (Nat.le_trans hB0 hE_21.size) (by omega) (by omega) (by omega) (by omega)).mono ?_)
              rintro _ w107 ⟨rfl, C104, e105, hR106⟩
              have hL1_110 := hL1_23.trans e105
              have hH117 := e105.has
              have ha118 := Ext.refl (B := w107.heap.size) hH117
              refine FWl.nil (hK9 _ _ ?_)
              clear hK9 K9
              refine FW.region rfl ?_
              refine FWl.val 29 rfl rfl (Value.int .i64 j) _ (r_move) ?_
              refine FWl.val 30 rfl rfl (Value.int .i64 (j + 1)) _ (r_addI rfl rfl (by omega) (by omega)) ?_
              refine FWl.val 31 rfl rfl (Value.int .i64 q) _ (r_move) ?_
              refine FWl.val 32 rfl rfl (Value.int .i64 (q - 1)) _ (r_subI rfl rfl (by omega) (by omega)) ?_
              refine FWl.val 5 rfl rfl (Value.int .i64 (j + 1)) _ (r_assign) ?_
              refine FWl.val 6 rfl rfl (Value.int .i64 (q - 1)) _ (r_assign) ?_
              refine FWl.nil (inBlockF_norm (inBlockF_norm (thenF_norm (?_))))
              have hneq : ¬ (i < (a.length : Int) ∧ j < (b.length : Int) ∧ rd a i = rd b j) := by first | (intro h; omega)
              have hwi : ¬ (i < (a.length : Int) ∧ E a b (i + 1) j + 1 ≤ E a b i j) := by first | (intro h; omega) | (rintro ⟨h, h'⟩; have := (within_iff h3 h4 (d := ed a b) (i := i + 1) (j := j) (q := q - 1) (by omega) (by omega) (by omega) (by omega) (by omega)).2 ⟨by omega, by omega⟩; simp_all)
              have hjb := (evsAt_in (a := a) (b := b) (i := i) (j := j) (by omega) (by omega) (by omega) (by omega) (by omega) hneq hwi).1
              have hst := (evsAt_in (a := a) (b := b) (i := i) (j := j) (by omega) (by omega) (by omega) (by omega) (by omega) hneq hwi).2
              have hA119 := hRc _ _ _ _ _ hR106 ha118
              refine ⟨_, ⟨C104, i, j + 1, q - 1, (l ++ [(3, i, j)]), ⟨rfl, rfl, rfl, rfl, rfl, rfl, rfl, trivial⟩, hL1_110, hA119, ⟨by omega, by omega, by omega, by omega⟩, by omega, by omega, by rw [← hev, hst.1]; simp, rfl⟩, ?_⟩
              omega
        | false =>
          have hp120 : ¬ (j < ((b.length : Nat) : Int)) := of_decide_eq_false hb29
          refine FWs.takeSkip rfl 51 rfl rfl hS25 ?_
          refine FWs.takeSkip rfl 52 rfl rfl hS25 ?_
          refine FWs.takeSkip rfl 53 rfl rfl hS25 ?_
          refine FWs.takeSkip rfl 54 rfl rfl hS25 ?_
          refine FWs.takeSkip rfl 55 rfl rfl hS25 ?_
          refine FWs.takeSkip rfl 56 rfl rfl hS25 ?_
          refine FWs.takeSkip rfl 57 rfl rfl hS25 ?_
          refine FWs.takeSkip rfl 58 rfl rfl hS25 ?_
          refine FWs.takeSkip rfl 59 rfl rfl hS25 ?_
          refine FWs.takeSkip rfl 60 rfl rfl hS25 ?_
          refine FWs.takeSkip rfl 61 rfl rfl hS25 ?_
          refine FWs.skip rfl 62 rfl rfl (.inr hS25) ?_
          refine FWs.skip rfl 63 rfl rfl (.inr hS25) ?_
          refine FWs.skip rfl 64 rfl rfl (.inr hS25) ?_
          refine FWs.skip rfl 65 rfl rfl (.inr hS25) ?_
          refine FWs.val rfl 66 rfl rfl (Value.bool false) _ (r_pick (t := false) rfl) (.inr hS25) ?_
          refine FWs.val rfl 33 rfl rfl (Value.bool false) _ (r_assign) (.inr hS25) ?_
          refine FWs.nil (hK4 _ _ ?_)
          clear hK4 K4
          refine FW.cond false rfl (fun h => nomatch h) (fun _ => ?_)
          refine FW.seq_k fun K10 hK10 => ?_
          refine FW.region rfl ?_
          refine FWl.val 76 rfl rfl (Value.int .i64 i) _ (r_move) ?_
          refine FWl.val 77 rfl rfl (Value.pointer (some ⟨gf, 0, none⟩)) _ (r_move) ?_
          refine FWl.val 78 rfl rfl (Value.pointer (some ⟨gf, 0, none⟩)) _ (r_nilCheck rfl) ?_
          refine FWl.val 79 rfl rfl (Value.pointer (some ⟨gf, 0, none⟩)) _ (r_fieldAddrS Try.underlying100 rfl Try.sizeOf39 rfl rfl rfl rfl) ?_
          refine FWl.val 80 rfl rfl (Value.slice A1 a.length c1) _ (r_loadP1 Try.isAgg39 hcg_14 rfl rfl hH24) ?_
          refine FWl.val 81 rfl rfl (Value.int .i64 ((a.length : Nat) : Int)) _ (r_lenSl Try.underlying39 rfl) ?_
          refine FWl.val 82 rfl rfl (Value.bool (decide (i < ((a.length : Nat) : Int)))) _ (r_lss rfl rfl) ?_
          refine FWl.val 83 rfl rfl (Value.bool (decide (i < ((a.length : Nat) : Int)))) _ (r_move) ?_
          cases hb121 : (decide (i < ((a.length : Nat) : Int))) with
          | true =>
            have hp122 : i < ((a.length : Nat) : Int) := of_decide_eq_true hb121
            refine FWl.val 84 rfl rfl (Value.pointer (some ⟨gf, 0, none⟩)) _ (r_move) ?_
            refine FWl.val 85 rfl rfl (Value.int .i64 i) _ (r_move) ?_
            refine FWl.val 86 rfl rfl (Value.int .i64 (i + 1)) _ (r_addI rfl rfl (by omega) (by omega)) ?_
            refine FWl.val 87 rfl rfl (Value.int .i64 j) _ (r_move) ?_
            refine FWl.val 88 rfl rfl (Value.int .i64 q) _ (r_move) ?_
            refine FWl.val 89 rfl rfl (Value.int .i64 (q - 1)) _ (r_subI rfl rfl (by omega) (by omega)) ?_
            refine FWl.call 90 rfl rfl 49 #[Value.pointer (some ⟨gf, 0, none⟩), Value.int .i64 (i + 1), Value.int .i64 j, Value.int .i64 (q - 1)] (r_call4 Try.call49 rfl rfl rfl rfl rfl) ((within_p hH24 hcg_14 hsa_11 hsb_12 hsr_13 (i := i + 1) (j := j) (q := q - 1) (fun r hr => by obtain ⟨q, hq⟩ := rowsN_good h3 h4 r hr; exact hq.len) (by omega) (by omega) (by omega) h3 h4 (by omega)).mono ?_)
            rintro _ w123 ⟨rfl, e124⟩
            have hE_125 := hE_21.trans (e124.mono (Nat.le_trans hB0 hE_21.size))
            have ha16_126 := ha16_22.step e124
            have hL1_127 := hL1_23.trans (e124.mono (Nat.le_trans hB0 hE_21.size))
            have hH128 := e124.has
            refine FWl.val 91 rfl rfl (Value.bool (withinS b (rowsN a b (ed a b)) (i + 1) j (q - 1))) _ (r_pick (t := true) rfl) ?_
            refine FWl.val 75 rfl rfl (Value.bool (withinS b (rowsN a b (ed a b)) (i + 1) j (q - 1))) _ (r_assign) ?_
            refine FWl.nil (hK10 _ _ ?_)
            clear hK10 K10
            refine FW.cond (withinS b (rowsN a b (ed a b)) (i + 1) j (q - 1)) rfl (fun hc129 => ?_) (fun hc129 => ?_)
            · refine FW.seq_k fun K11 hK11 => ?_
              refine FW.region rfl ?_
              refine FWl.val 92 rfl rfl (Value.func (.func fd) #[] cap) _ (r_move) ?_
              refine FWl.val 93 rfl rfl (Value.int .i64 i) _ (r_move) ?_
              refine FWl.val 94 rfl rfl (Value.int .i64 j) _ (r_move) ?_
              have hA135 := hRc _ _ _ _ _ hRl ha16_126
              refine FWl.call 95 rfl rfl fd (#[Value.int .i64 2, Value.int .i64 i, Value.int .i64 j] ++ cap) (r_callV3 hcall rfl rfl rfl rfl rfl) ((hdo _ _ l 2 i j hH128 hA135 (Nat.le_trans hB0 hE_125.size) (by omega) (by omega) (by omega) (by omega)).mono ?_)
              rintro _ w134 ⟨rfl, C131, e132, hR133⟩
              have hL1_137 := hL1_127.trans e132
              have hH142 := e132.has
              have ha143 := Ext.refl (B := w134.heap.size) hH142
              refine FWl.nil (hK11 _ _ ?_)
              clear hK11 K11
              refine FW.region rfl ?_
              refine FWl.val 96 rfl rfl (Value.int .i64 i) _ (r_move) ?_
              refine FWl.val 97 rfl rfl (Value.int .i64 (i + 1)) _ (r_addI rfl rfl (by omega) (by omega)) ?_
              refine FWl.val 98 rfl rfl (Value.int .i64 q) _ (r_move) ?_
              refine FWl.val 99 rfl rfl (Value.int .i64 (q - 1)) _ (r_subI rfl rfl (by omega) (by omega)) ?_
              refine FWl.val 4 rfl rfl (Value.int .i64 (i + 1)) _ (r_assign) ?_
              refine FWl.val 6 rfl rfl (Value.int .i64 (q - 1)) _ (r_assign) ?_
              refine FWl.nil (inBlockF_norm (inBlockF_norm (thenF_norm (?_))))
              have hneq : ¬ (j < (b.length : Int) ∧ rd a i = rd b j) := by first | (intro h; omega)
              have hwi : E a b (i + 1) j + 1 ≤ E a b i j := by have := (within_iff h3 h4 (d := ed a b) (i := i + 1) (j := j) (q := q - 1) (by omega) (by omega) (by omega) (by omega) (by omega)).1 (by assumption); omega
              have hst := evsAt_out (a := a) (b := b) (i := i) (j := j) (by omega) (by omega) (by omega) (by omega) hneq hwi
              have hA144 := hRc _ _ _ _ _ hR133 ha143
              refine ⟨_, ⟨C131, i + 1, j, q - 1, (l ++ [(2, i, j)]), ⟨rfl, rfl, rfl, rfl, rfl, rfl, rfl, trivial⟩, hL1_137, hA144, ⟨by omega, by omega, by omega, by omega⟩, by omega, by omega, by rw [← hev, hst.1]; simp, rfl⟩, ?_⟩
              omega
            · refine FW.seq_k fun K12 hK12 => ?_
              refine FW.region rfl ?_
              refine FWl.val 25 rfl rfl (Value.func (.func fd) #[] cap) _ (r_move) ?_
              refine FWl.val 26 rfl rfl (Value.int .i64 i) _ (r_move) ?_
              refine FWl.val 27 rfl rfl (Value.int .i64 j) _ (r_move) ?_
              have hA150 := hRc _ _ _ _ _ hRl ha16_126
              refine FWl.call 28 rfl rfl fd (#[Value.int .i64 3, Value.int .i64 i, Value.int .i64 j] ++ cap) (r_callV3 hcall rfl rfl rfl rfl rfl) ((hdo _ _ l 3 i j hH128 hA150 (Nat.le_trans hB0 hE_125.size) (by omega) (by omega) (by omega) (by omega)).mono ?_)
              rintro _ w149 ⟨rfl, C146, e147, hR148⟩
              have hL1_152 := hL1_127.trans e147
              have hH157 := e147.has
              have ha158 := Ext.refl (B := w149.heap.size) hH157
              refine FWl.nil (hK12 _ _ ?_)
              clear hK12 K12
              refine FW.region rfl ?_
              refine FWl.val 29 rfl rfl (Value.int .i64 j) _ (r_move) ?_
              refine FWl.val 30 rfl rfl (Value.int .i64 (j + 1)) _ (r_addI rfl rfl (by omega) (by omega)) ?_
              refine FWl.val 31 rfl rfl (Value.int .i64 q) _ (r_move) ?_
              refine FWl.val 32 rfl rfl (Value.int .i64 (q - 1)) _ (r_subI rfl rfl (by omega) (by omega)) ?_
              refine FWl.val 5 rfl rfl (Value.int .i64 (j + 1)) _ (r_assign) ?_
              refine FWl.val 6 rfl rfl (Value.int .i64 (q - 1)) _ (r_assign) ?_
              refine FWl.nil (inBlockF_norm (inBlockF_norm (thenF_norm (?_))))
              have hneq : ¬ (i < (a.length : Int) ∧ j < (b.length : Int) ∧ rd a i = rd b j) := by first | (intro h; omega)
              have hwi : ¬ (i < (a.length : Int) ∧ E a b (i + 1) j + 1 ≤ E a b i j) := by first | (intro h; omega) | (rintro ⟨h, h'⟩; have := (within_iff h3 h4 (d := ed a b) (i := i + 1) (j := j) (q := q - 1) (by omega) (by omega) (by omega) (by omega) (by omega)).2 ⟨by omega, by omega⟩; simp_all)
              have hjb := (evsAt_in (a := a) (b := b) (i := i) (j := j) (by omega) (by omega) (by omega) (by omega) (by omega) hneq hwi).1
              have hst := (evsAt_in (a := a) (b := b) (i := i) (j := j) (by omega) (by omega) (by omega) (by omega) (by omega) hneq hwi).2
              have hA159 := hRc _ _ _ _ _ hR148 ha158
              refine ⟨_, ⟨C146, i, j + 1, q - 1, (l ++ [(3, i, j)]), ⟨rfl, rfl, rfl, rfl, rfl, rfl, rfl, trivial⟩, hL1_152, hA159, ⟨by omega, by omega, by omega, by omega⟩, by omega, by omega, by rw [← hev, hst.1]; simp, rfl⟩, ?_⟩
              omega
          | false =>
            have hp160 : ¬ (i < ((a.length : Nat) : Int)) := of_decide_eq_false hb121
            refine FWl.skip 84 rfl rfl ?_
            refine FWl.skip 85 rfl rfl ?_
            refine FWl.skip 86 rfl rfl ?_
            refine FWl.skip 87 rfl rfl ?_
            refine FWl.skip 88 rfl rfl ?_
            refine FWl.skip 89 rfl rfl ?_
            refine FWl.skip 90 rfl rfl ?_
            refine FWl.val 91 rfl rfl (Value.bool false) _ (r_pick (t := false) rfl) ?_
            refine FWl.val 75 rfl rfl (Value.bool false) _ (r_assign) ?_
            refine FWl.nil (hK10 _ _ ?_)
            clear hK10 K10
            refine FW.cond false rfl (fun h => nomatch h) (fun _ => ?_)
            refine FW.seq_k fun K13 hK13 => ?_
            refine FW.region rfl ?_
            refine FWl.val 25 rfl rfl (Value.func (.func fd) #[] cap) _ (r_move) ?_
            refine FWl.val 26 rfl rfl (Value.int .i64 i) _ (r_move) ?_
            refine FWl.val 27 rfl rfl (Value.int .i64 j) _ (r_move) ?_
            have hA165 := hRc _ _ _ _ _ hRl ha16_22
            refine FWl.call 28 rfl rfl fd (#[Value.int .i64 3, Value.int .i64 i, Value.int .i64 j] ++ cap) (r_callV3 hcall rfl rfl rfl rfl rfl) ((hdo _ _ l 3 i j hH24 hA165 (Nat.le_trans hB0 hE_21.size) (by omega) (by omega) (by omega) (by omega)).mono ?_)
            rintro _ w164 ⟨rfl, C161, e162, hR163⟩
            have hL1_167 := hL1_23.trans e162
            have hH172 := e162.has
            have ha173 := Ext.refl (B := w164.heap.size) hH172
            refine FWl.nil (hK13 _ _ ?_)
            clear hK13 K13
            refine FW.region rfl ?_
            refine FWl.val 29 rfl rfl (Value.int .i64 j) _ (r_move) ?_
            refine FWl.val 30 rfl rfl (Value.int .i64 (j + 1)) _ (r_addI rfl rfl (by omega) (by omega)) ?_
            refine FWl.val 31 rfl rfl (Value.int .i64 q) _ (r_move) ?_
            refine FWl.val 32 rfl rfl (Value.int .i64 (q - 1)) _ (r_subI rfl rfl (by omega) (by omega)) ?_
            refine FWl.val 5 rfl rfl (Value.int .i64 (j + 1)) _ (r_assign) ?_
            refine FWl.val 6 rfl rfl (Value.int .i64 (q - 1)) _ (r_assign) ?_
            refine FWl.nil (inBlockF_norm (inBlockF_norm (thenF_norm (?_))))
            have hneq : ¬ (i < (a.length : Int) ∧ j < (b.length : Int) ∧ rd a i = rd b j) := by first | (intro h; omega)
            have hwi : ¬ (i < (a.length : Int) ∧ E a b (i + 1) j + 1 ≤ E a b i j) := by first | (intro h; omega) | (rintro ⟨h, h'⟩; have := (within_iff h3 h4 (d := ed a b) (i := i + 1) (j := j) (q := q - 1) (by omega) (by omega) (by omega) (by omega) (by omega)).2 ⟨by omega, by omega⟩; simp_all)
            have hjb := (evsAt_in (a := a) (b := b) (i := i) (j := j) (by omega) (by omega) (by omega) (by omega) (by omega) hneq hwi).1
            have hst := (evsAt_in (a := a) (b := b) (i := i) (j := j) (by omega) (by omega) (by omega) (by omega) (by omega) hneq hwi).2
            have hA174 := hRc _ _ _ _ _ hR163 ha173
            refine ⟨_, ⟨C161, i, j + 1, q - 1, (l ++ [(3, i, j)]), ⟨rfl, rfl, rfl, rfl, rfl, rfl, rfl, trivial⟩, hL1_167, hA174, ⟨by omega, by omega, by omega, by omega⟩, by omega, by omega, by rw [← hev, hst.1]; simp, rfl⟩, ?_⟩
            omega
      | false =>
        have hp175 : ¬ (i < ((a.length : Nat) : Int)) := of_decide_eq_false hb27
        refine FWs.takeSkip rfl 42 rfl rfl hS25 ?_
        refine FWs.skip rfl 43 rfl rfl (.inr hS25) ?_
        refine FWs.skip rfl 44 rfl rfl (.inr hS25) ?_
        refine FWs.skip rfl 45 rfl rfl (.inr hS25) ?_
        refine FWs.skip rfl 46 rfl rfl (.inr hS25) ?_
        refine FWs.skip rfl 47 rfl rfl (.inr hS25) ?_
        refine FWs.skip rfl 48 rfl rfl (.inr hS25) ?_
        refine FWs.val rfl 49 rfl rfl (Value.bool false) _ (r_pick (t := false) rfl) (.inr hS25) ?_
        refine FWs.val rfl 50 rfl rfl (Value.bool false) _ (r_move) (.inr hS25) ?_
        refine FWs.takeSkip rfl 51 rfl rfl hS25 ?_
        refine FWs.takeSkip rfl 52 rfl rfl hS25 ?_
        refine FWs.takeSkip rfl 53 rfl rfl hS25 ?_
        refine FWs.takeSkip rfl 54 rfl rfl hS25 ?_
        refine FWs.takeSkip rfl 55 rfl rfl hS25 ?_
        refine FWs.takeSkip rfl 56 rfl rfl hS25 ?_
        refine FWs.takeSkip rfl 57 rfl rfl hS25 ?_
        refine FWs.takeSkip rfl 58 rfl rfl hS25 ?_
        refine FWs.takeSkip rfl 59 rfl rfl hS25 ?_
        refine FWs.takeSkip rfl 60 rfl rfl hS25 ?_
        refine FWs.takeSkip rfl 61 rfl rfl hS25 ?_
        refine FWs.skip rfl 62 rfl rfl (.inr hS25) ?_
        refine FWs.skip rfl 63 rfl rfl (.inr hS25) ?_
        refine FWs.skip rfl 64 rfl rfl (.inr hS25) ?_
        refine FWs.skip rfl 65 rfl rfl (.inr hS25) ?_
        refine FWs.val rfl 66 rfl rfl (Value.bool false) _ (r_pick (t := false) rfl) (.inr hS25) ?_
        refine FWs.val rfl 33 rfl rfl (Value.bool false) _ (r_assign) (.inr hS25) ?_
        refine FWs.nil (hK4 _ _ ?_)
        clear hK4 K4
        refine FW.cond false rfl (fun h => nomatch h) (fun _ => ?_)
        refine FW.seq_k fun K14 hK14 => ?_
        refine FW.region rfl ?_
        refine FWl.val 76 rfl rfl (Value.int .i64 i) _ (r_move) ?_
        refine FWl.val 77 rfl rfl (Value.pointer (some ⟨gf, 0, none⟩)) _ (r_move) ?_
        refine FWl.val 78 rfl rfl (Value.pointer (some ⟨gf, 0, none⟩)) _ (r_nilCheck rfl) ?_
        refine FWl.val 79 rfl rfl (Value.pointer (some ⟨gf, 0, none⟩)) _ (r_fieldAddrS Try.underlying100 rfl Try.sizeOf39 rfl rfl rfl rfl) ?_
        refine FWl.val 80 rfl rfl (Value.slice A1 a.length c1) _ (r_loadP1 Try.isAgg39 hcg_14 rfl rfl hH24) ?_
        refine FWl.val 81 rfl rfl (Value.int .i64 ((a.length : Nat) : Int)) _ (r_lenSl Try.underlying39 rfl) ?_
        refine FWl.val 82 rfl rfl (Value.bool (decide (i < ((a.length : Nat) : Int)))) _ (r_lss rfl rfl) ?_
        refine FWl.val 83 rfl rfl (Value.bool (decide (i < ((a.length : Nat) : Int)))) _ (r_move) ?_
        cases hb176 : (decide (i < ((a.length : Nat) : Int))) with
        | true =>
          have hp177 : i < ((a.length : Nat) : Int) := of_decide_eq_true hb176
          refine FWl.val 84 rfl rfl (Value.pointer (some ⟨gf, 0, none⟩)) _ (r_move) ?_
          refine FWl.val 85 rfl rfl (Value.int .i64 i) _ (r_move) ?_
          refine FWl.val 86 rfl rfl (Value.int .i64 (i + 1)) _ (r_addI rfl rfl (by omega) (by omega)) ?_
          refine FWl.val 87 rfl rfl (Value.int .i64 j) _ (r_move) ?_
          refine FWl.val 88 rfl rfl (Value.int .i64 q) _ (r_move) ?_
          refine FWl.val 89 rfl rfl (Value.int .i64 (q - 1)) _ (r_subI rfl rfl (by omega) (by omega)) ?_
          refine FWl.call 90 rfl rfl 49 #[Value.pointer (some ⟨gf, 0, none⟩), Value.int .i64 (i + 1), Value.int .i64 j, Value.int .i64 (q - 1)] (r_call4 Try.call49 rfl rfl rfl rfl rfl) ((within_p hH24 hcg_14 hsa_11 hsb_12 hsr_13 (i := i + 1) (j := j) (q := q - 1) (fun r hr => by obtain ⟨q, hq⟩ := rowsN_good h3 h4 r hr; exact hq.len) (by omega) (by omega) (by omega) h3 h4 (by omega)).mono ?_)
          rintro _ w178 ⟨rfl, e179⟩
          have hE_180 := hE_21.trans (e179.mono (Nat.le_trans hB0 hE_21.size))
          have ha16_181 := ha16_22.step e179
          have hL1_182 := hL1_23.trans (e179.mono (Nat.le_trans hB0 hE_21.size))
          have hH183 := e179.has
          refine FWl.val 91 rfl rfl (Value.bool (withinS b (rowsN a b (ed a b)) (i + 1) j (q - 1))) _ (r_pick (t := true) rfl) ?_
          refine FWl.val 75 rfl rfl (Value.bool (withinS b (rowsN a b (ed a b)) (i + 1) j (q - 1))) _ (r_assign) ?_
          refine FWl.nil (hK14 _ _ ?_)
          clear hK14 K14
          refine FW.cond (withinS b (rowsN a b (ed a b)) (i + 1) j (q - 1)) rfl (fun hc184 => ?_) (fun hc184 => ?_)
          · refine FW.seq_k fun K15 hK15 => ?_
            refine FW.region rfl ?_
            refine FWl.val 92 rfl rfl (Value.func (.func fd) #[] cap) _ (r_move) ?_
            refine FWl.val 93 rfl rfl (Value.int .i64 i) _ (r_move) ?_
            refine FWl.val 94 rfl rfl (Value.int .i64 j) _ (r_move) ?_
            have hA190 := hRc _ _ _ _ _ hRl ha16_181
            refine FWl.call 95 rfl rfl fd (#[Value.int .i64 2, Value.int .i64 i, Value.int .i64 j] ++ cap) (r_callV3 hcall rfl rfl rfl rfl rfl) ((hdo _ _ l 2 i j hH183 hA190 (Nat.le_trans hB0 hE_180.size) (by omega) (by omega) (by omega) (by omega)).mono ?_)
            rintro _ w189 ⟨rfl, C186, e187, hR188⟩
            have hL1_192 := hL1_182.trans e187
            have hH197 := e187.has
            have ha198 := Ext.refl (B := w189.heap.size) hH197
            refine FWl.nil (hK15 _ _ ?_)
            clear hK15 K15
            refine FW.region rfl ?_
            refine FWl.val 96 rfl rfl (Value.int .i64 i) _ (r_move) ?_
            refine FWl.val 97 rfl rfl (Value.int .i64 (i + 1)) _ (r_addI rfl rfl (by omega) (by omega)) ?_
            refine FWl.val 98 rfl rfl (Value.int .i64 q) _ (r_move) ?_
            refine FWl.val 99 rfl rfl (Value.int .i64 (q - 1)) _ (r_subI rfl rfl (by omega) (by omega)) ?_
            refine FWl.val 4 rfl rfl (Value.int .i64 (i + 1)) _ (r_assign) ?_
            refine FWl.val 6 rfl rfl (Value.int .i64 (q - 1)) _ (r_assign) ?_
            refine FWl.nil (inBlockF_norm (inBlockF_norm (thenF_norm (?_))))
            have hneq : ¬ (j < (b.length : Int) ∧ rd a i = rd b j) := by first | (intro h; omega)
            have hwi : E a b (i + 1) j + 1 ≤ E a b i j := by have := (within_iff h3 h4 (d := ed a b) (i := i + 1) (j := j) (q := q - 1) (by omega) (by omega) (by omega) (by omega) (by omega)).1 (by assumption); omega
            have hst := evsAt_out (a := a) (b := b) (i := i) (j := j) (by omega) (by omega) (by omega) (by omega) hneq hwi
            have hA199 := hRc _ _ _ _ _ hR188 ha198
            refine ⟨_, ⟨C186, i + 1, j, q - 1, (l ++ [(2, i, j)]), ⟨rfl, rfl, rfl, rfl, rfl, rfl, rfl, trivial⟩, hL1_192, hA199, ⟨by omega, by omega, by omega, by omega⟩, by omega, by omega, by rw [← hev, hst.1]; simp, rfl⟩, ?_⟩
            omega
          · refine FW.seq_k fun K16 hK16 => ?_
            refine FW.region rfl ?_
            refine FWl.val 25 rfl rfl (Value.func (.func fd) #[] cap) _ (r_move) ?_
            refine FWl.val 26 rfl rfl (Value.int .i64 i) _ (r_move) ?_
            refine FWl.val 27 rfl rfl (Value.int .i64 j) _ (r_move) ?_
            have hA205 := hRc _ _ _ _ _ hRl ha16_181
            refine FWl.call 28 rfl rfl fd (#[Value.int .i64 3, Value.int .i64 i, Value.int .i64 j] ++ cap) (r_callV3 hcall rfl rfl rfl rfl rfl) ((hdo _ _ l 3 i j hH183 hA205 (Nat.le_trans hB0 hE_180.size) (by omega) (by omega) (by omega) (by omega)).mono ?_)
            rintro _ w204 ⟨rfl, C201, e202, hR203⟩
            have hL1_207 := hL1_182.trans e202
            have hH212 := e202.has
            have ha213 := Ext.refl (B := w204.heap.size) hH212
            refine FWl.nil (hK16 _ _ ?_)
            clear hK16 K16
            refine FW.region rfl ?_
            refine FWl.val 29 rfl rfl (Value.int .i64 j) _ (r_move) ?_
            refine FWl.val 30 rfl rfl (Value.int .i64 (j + 1)) _ (r_addI rfl rfl (by omega) (by omega)) ?_
            refine FWl.val 31 rfl rfl (Value.int .i64 q) _ (r_move) ?_
            refine FWl.val 32 rfl rfl (Value.int .i64 (q - 1)) _ (r_subI rfl rfl (by omega) (by omega)) ?_
            refine FWl.val 5 rfl rfl (Value.int .i64 (j + 1)) _ (r_assign) ?_
            refine FWl.val 6 rfl rfl (Value.int .i64 (q - 1)) _ (r_assign) ?_
            refine FWl.nil (inBlockF_norm (inBlockF_norm (thenF_norm (?_))))
            have hneq : ¬ (i < (a.length : Int) ∧ j < (b.length : Int) ∧ rd a i = rd b j) := by first | (intro h; omega)
            have hwi : ¬ (i < (a.length : Int) ∧ E a b (i + 1) j + 1 ≤ E a b i j) := by first | (intro h; omega) | (rintro ⟨h, h'⟩; have := (within_iff h3 h4 (d := ed a b) (i := i + 1) (j := j) (q := q - 1) (by omega) (by omega) (by omega) (by omega) (by omega)).2 ⟨by omega, by omega⟩; simp_all)
            have hjb := (evsAt_in (a := a) (b := b) (i := i) (j := j) (by omega) (by omega) (by omega) (by omega) (by omega) hneq hwi).1
            have hst := (evsAt_in (a := a) (b := b) (i := i) (j := j) (by omega) (by omega) (by omega) (by omega) (by omega) hneq hwi).2
            have hA214 := hRc _ _ _ _ _ hR203 ha213
            refine ⟨_, ⟨C201, i, j + 1, q - 1, (l ++ [(3, i, j)]), ⟨rfl, rfl, rfl, rfl, rfl, rfl, rfl, trivial⟩, hL1_207, hA214, ⟨by omega, by omega, by omega, by omega⟩, by omega, by omega, by rw [← hev, hst.1]; simp, rfl⟩, ?_⟩
            omega
        | false =>
          have hp215 : ¬ (i < ((a.length : Nat) : Int)) := of_decide_eq_false hb176
          refine FWl.skip 84 rfl rfl ?_
          refine FWl.skip 85 rfl rfl ?_
          refine FWl.skip 86 rfl rfl ?_
          refine FWl.skip 87 rfl rfl ?_
          refine FWl.skip 88 rfl rfl ?_
          refine FWl.skip 89 rfl rfl ?_
          refine FWl.skip 90 rfl rfl ?_
          refine FWl.val 91 rfl rfl (Value.bool false) _ (r_pick (t := false) rfl) ?_
          refine FWl.val 75 rfl rfl (Value.bool false) _ (r_assign) ?_
          refine FWl.nil (hK14 _ _ ?_)
          clear hK14 K14
          refine FW.cond false rfl (fun h => nomatch h) (fun _ => ?_)
          refine FW.seq_k fun K17 hK17 => ?_
          refine FW.region rfl ?_
          refine FWl.val 25 rfl rfl (Value.func (.func fd) #[] cap) _ (r_move) ?_
          refine FWl.val 26 rfl rfl (Value.int .i64 i) _ (r_move) ?_
          refine FWl.val 27 rfl rfl (Value.int .i64 j) _ (r_move) ?_
          have hA220 := hRc _ _ _ _ _ hRl ha16_22
          refine FWl.call 28 rfl rfl fd (#[Value.int .i64 3, Value.int .i64 i, Value.int .i64 j] ++ cap) (r_callV3 hcall rfl rfl rfl rfl rfl) ((hdo _ _ l 3 i j hH24 hA220 (Nat.le_trans hB0 hE_21.size) (by omega) (by omega) (by omega) (by omega)).mono ?_)
          rintro _ w219 ⟨rfl, C216, e217, hR218⟩
          have hL1_222 := hL1_23.trans e217
          have hH227 := e217.has
          have ha228 := Ext.refl (B := w219.heap.size) hH227
          refine FWl.nil (hK17 _ _ ?_)
          clear hK17 K17
          refine FW.region rfl ?_
          refine FWl.val 29 rfl rfl (Value.int .i64 j) _ (r_move) ?_
          refine FWl.val 30 rfl rfl (Value.int .i64 (j + 1)) _ (r_addI rfl rfl (by omega) (by omega)) ?_
          refine FWl.val 31 rfl rfl (Value.int .i64 q) _ (r_move) ?_
          refine FWl.val 32 rfl rfl (Value.int .i64 (q - 1)) _ (r_subI rfl rfl (by omega) (by omega)) ?_
          refine FWl.val 5 rfl rfl (Value.int .i64 (j + 1)) _ (r_assign) ?_
          refine FWl.val 6 rfl rfl (Value.int .i64 (q - 1)) _ (r_assign) ?_
          refine FWl.nil (inBlockF_norm (inBlockF_norm (thenF_norm (?_))))
          have hneq : ¬ (i < (a.length : Int) ∧ j < (b.length : Int) ∧ rd a i = rd b j) := by first | (intro h; omega)
          have hwi : ¬ (i < (a.length : Int) ∧ E a b (i + 1) j + 1 ≤ E a b i j) := by first | (intro h; omega) | (rintro ⟨h, h'⟩; have := (within_iff h3 h4 (d := ed a b) (i := i + 1) (j := j) (q := q - 1) (by omega) (by omega) (by omega) (by omega) (by omega)).2 ⟨by omega, by omega⟩; simp_all)
          have hjb := (evsAt_in (a := a) (b := b) (i := i) (j := j) (by omega) (by omega) (by omega) (by omega) (by omega) hneq hwi).1
          have hst := (evsAt_in (a := a) (b := b) (i := i) (j := j) (by omega) (by omega) (by omega) (by omega) (by omega) hneq hwi).2
          have hA229 := hRc _ _ _ _ _ hR218 ha228
          refine ⟨_, ⟨C216, i, j + 1, q - 1, (l ++ [(3, i, j)]), ⟨rfl, rfl, rfl, rfl, rfl, rfl, rfl, trivial⟩, hL1_222, hA229, ⟨by omega, by omega, by omega, by omega⟩, by omega, by omega, by rw [← hev, hst.1]; simp, rfl⟩, ?_⟩
          omega
    | false =>
      have hp230 : ¬ (i < ((a.length : Nat) : Int)) := of_decide_eq_false hb17
      refine FWl.val 17 rfl rfl (Value.int .i64 j) _ (r_move) ?_
      refine FWl.val 18 rfl rfl (Value.pointer (some ⟨gf, 0, none⟩)) _ (r_move) ?_
      refine FWl.val 19 rfl rfl (Value.pointer (some ⟨gf, 0, none⟩)) _ (r_nilCheck rfl) ?_
      refine FWl.val 20 rfl rfl (Value.pointer (some ⟨gf, 1, none⟩)) _ (r_fieldAddrS Try.underlying100 rfl Try.sizeOf39 rfl rfl rfl rfl) ?_
      refine FWl.val 21 rfl rfl (Value.slice A2 b.length c2) _ (r_loadP1 Try.isAgg39 hcg_14 rfl rfl hH15) ?_
      refine FWl.val 22 rfl rfl (Value.int .i64 ((b.length : Nat) : Int)) _ (r_lenSl Try.underlying39 rfl) ?_
      refine FWl.val 23 rfl rfl (Value.bool (decide (j < ((b.length : Nat) : Int)))) _ (r_lss rfl rfl) ?_
      refine FWl.val 24 rfl rfl (Value.bool (decide (j < ((b.length : Nat) : Int)))) _ (r_pick (t := false) rfl) ?_
      refine FWl.nil (hK3 _ _ ?_)
      clear hK3 K3
      refine FW.cond (decide (j < ((b.length : Nat) : Int))) rfl (fun hc231 => ?_) (fun hc231 => ?_)
      · have hp232 : j < ((b.length : Nat) : Int) := of_decide_eq_true hc231
        refine FW.skip (hK2 _ _ ?_)
        clear hK2 K2
        refine FW.block ?_
        refine FW.block ?_
        refine FW.seq_k fun K18 hK18 => ?_
        refine FW.regionDraw mixed (SS C9 (fun _ => True) w8.drew) [] [(0, true), (1, false), (2, false), (3, false), (4, false), (5, false), (6, false), (7, false), (8, true), (9, false), (10, false), (11, false), (12, false), (13, false), (14, false), (15, false), (16, false), (17, true), (18, true), (19, true), (20, true), (21, true), (22, true), (23, true), (24, true), (25, true), (26, true), (27, true), (28, false), (29, false), (30, false), (31, false), (32, false), (33, false)] rfl (by kernel_rfl) ?_
        have e234 : Ext w8.heap.size w8 C9 w8.drew C9 := (Ext.refl hH15).drew
        generalize w8.drew = w233 at *
        have hE_235 := hE_10.trans (e234.mono (Nat.le_trans hB0 hE_10.size))
        have ha16_236 := ha16.step e234
        have hL1_237 := hL1.trans (e234.mono (Nat.le_trans hB0 hE_10.size))
        have hH238 := e234.has
        have hS239 : SS C9 (fun _ => True) w233 w233 := SS.refl hH238
        have hle240 := Gle.refl C9
        refine FWs.take rfl 34 rfl rfl (Value.int .i64 i) hS239 (fun _ _ => r_move) ?_
        refine FWs.val rfl 35 rfl rfl (Value.pointer (some ⟨gf, 0, none⟩)) _ (r_move) (.inr hS239) ?_
        refine FWs.val rfl 36 rfl rfl (Value.pointer (some ⟨gf, 0, none⟩)) _ (r_nilCheck rfl) (.inr hS239) ?_
        refine FWs.val rfl 37 rfl rfl (Value.pointer (some ⟨gf, 0, none⟩)) _ (r_fieldAddrS Try.underlying100 rfl Try.sizeOf39 rfl rfl rfl rfl) (.inr hS239) ?_
        refine FWs.val rfl 38 rfl rfl (Value.slice A1 a.length c1) _ (r_loadP1 Try.isAgg39 hcg_14 rfl rfl hH238) (.inr hS239) ?_
        refine FWs.val rfl 39 rfl rfl (Value.int .i64 ((a.length : Nat) : Int)) _ (r_lenSl Try.underlying39 rfl) (.inr hS239) ?_
        refine FWs.val rfl 40 rfl rfl (Value.bool (decide (i < ((a.length : Nat) : Int)))) _ (r_lss rfl rfl) (.inr hS239) ?_
        refine FWs.val rfl 41 rfl rfl (Value.bool (decide (i < ((a.length : Nat) : Int)))) _ (r_move) (.inr hS239) ?_
        cases hb241 : (decide (i < ((a.length : Nat) : Int))) with
        | true =>
          have hp242 : i < ((a.length : Nat) : Int) := of_decide_eq_true hb241
          refine FWs.take rfl 42 rfl rfl (Value.int .i64 j) hS239 (fun _ _ => r_move) ?_
          refine FWs.val rfl 43 rfl rfl (Value.pointer (some ⟨gf, 0, none⟩)) _ (r_move) (.inr hS239) ?_
          refine FWs.val rfl 44 rfl rfl (Value.pointer (some ⟨gf, 0, none⟩)) _ (r_nilCheck rfl) (.inr hS239) ?_
          refine FWs.val rfl 45 rfl rfl (Value.pointer (some ⟨gf, 1, none⟩)) _ (r_fieldAddrS Try.underlying100 rfl Try.sizeOf39 rfl rfl rfl rfl) (.inr hS239) ?_
          refine FWs.val rfl 46 rfl rfl (Value.slice A2 b.length c2) _ (r_loadP1 Try.isAgg39 hcg_14 rfl rfl hH238) (.inr hS239) ?_
          refine FWs.val rfl 47 rfl rfl (Value.int .i64 ((b.length : Nat) : Int)) _ (r_lenSl Try.underlying39 rfl) (.inr hS239) ?_
          refine FWs.val rfl 48 rfl rfl (Value.bool (decide (j < ((b.length : Nat) : Int)))) _ (r_lss rfl rfl) (.inr hS239) ?_
          refine FWs.val rfl 49 rfl rfl (Value.bool (decide (j < ((b.length : Nat) : Int)))) _ (r_pick (t := true) rfl) (.inr hS239) ?_
          refine FWs.val rfl 50 rfl rfl (Value.bool (decide (j < ((b.length : Nat) : Int)))) _ (r_move) (.inr hS239) ?_
          cases hb243 : (decide (j < ((b.length : Nat) : Int))) with
          | true =>
            have hp244 : j < ((b.length : Nat) : Int) := of_decide_eq_true hb243
            refine FWs.take rfl 51 rfl rfl (Value.pointer (some ⟨gf, 0, none⟩)) hS239 (fun _ _ => r_move) ?_
            refine FWs.take rfl 52 rfl rfl (Value.pointer (some ⟨gf, 0, none⟩)) hS239 (fun _ _ => r_nilCheck rfl) ?_
            refine FWs.take rfl 53 rfl rfl (Value.pointer (some ⟨gf, 0, none⟩)) hS239 (fun _ _ => r_fieldAddrS Try.underlying100 rfl Try.sizeOf39 rfl rfl rfl rfl) ?_
            refine FWs.take rfl 54 rfl rfl (Value.slice A1 a.length c1) hS239 (fun _ hS' => r_loadP1 Try.isAgg39 hcg_14 rfl rfl hS'.has) ?_
            refine FWs.take rfl 55 rfl rfl (Value.int .i64 i) hS239 (fun _ _ => r_move) ?_
            obtain ⟨x245, hx246⟩ := get_some (xs := a) (j := (i).toNat) (by omega)
            obtain ⟨cs247, hr248, hg249⟩ := hsa_11.at_ _ _ hx246
            obtain rfl := hr248
            have hra := rd_of hx246
            refine FWs.take rfl 56 rfl rfl (ptrAt A1 ((i).toNat * 1)) hS239 (fun _ _ => r_indexAddr Try.underlying39 Try.sizeOf3 rfl rfl (hsa_11.isSome (by omega)) (by omega) (by omega)) ?_
            refine FWs.take rfl 57 rfl rfl (Value.int .i64 x245) hS239 (fun _ hS' => r_loadG1 (i := 0) Try.isAgg3 hg249 rfl rfl hS'.has) ?_
            refine FWs.take rfl 58 rfl rfl (Value.pointer (some ⟨gf, 0, none⟩)) hS239 (fun _ _ => r_move) ?_
            refine FWs.take rfl 59 rfl rfl (Value.pointer (some ⟨gf, 0, none⟩)) hS239 (fun _ _ => r_nilCheck rfl) ?_
            refine FWs.take rfl 60 rfl rfl (Value.pointer (some ⟨gf, 1, none⟩)) hS239 (fun _ _ => r_fieldAddrS Try.underlying100 rfl Try.sizeOf39 rfl rfl rfl rfl) ?_
            refine FWs.take rfl 61 rfl rfl (Value.slice A2 b.length c2) hS239 (fun _ hS' => r_loadP1 Try.isAgg39 hcg_14 rfl rfl hS'.has) ?_
            refine FWs.val rfl 62 rfl rfl (Value.int .i64 j) _ (r_move) (.inr hS239) ?_
            obtain ⟨x250, hx251⟩ := get_some (xs := b) (j := (j).toNat) (by omega)
            obtain ⟨cs252, hr253, hg254⟩ := hsb_12.at_ _ _ hx251
            obtain rfl := hr253
            have hrb := rd_of hx251
            refine FWs.val rfl 63 rfl rfl (ptrAt A2 ((j).toNat * 1)) _ (r_indexAddr Try.underlying39 Try.sizeOf3 rfl rfl (hsb_12.isSome (by omega)) (by omega) (by omega)) (.inr hS239) ?_
            refine FWs.val rfl 64 rfl rfl (Value.int .i64 x250) _ (r_loadG1 (i := 0) Try.isAgg3 hg254 rfl rfl hH238) (.inr hS239) ?_
            refine FWs.val rfl 65 rfl rfl (Value.bool (decide (x245 = x250))) _ (r_eql rfl rfl) (.inr hS239) ?_
            refine FWs.val rfl 66 rfl rfl (Value.bool (decide (x245 = x250))) _ (r_pick (t := true) rfl) (.inr hS239) ?_
            refine FWs.val rfl 33 rfl rfl (Value.bool (decide (x245 = x250))) _ (r_assign) (.inr hS239) ?_
            refine FWs.nil (hK18 _ _ ?_)
            clear hK18 K18
            refine FW.cond (decide (x245 = x250)) rfl (fun hc255 => ?_) (fun hc255 => ?_)
            · have hp256 : x245 = x250 := of_decide_eq_true hc255
              refine FW.seq_k fun K19 hK19 => ?_
              refine FW.region rfl ?_
              refine FWl.val 67 rfl rfl (Value.func (.func fd) #[] cap) _ (r_move) ?_
              refine FWl.val 68 rfl rfl (Value.int .i64 i) _ (r_move) ?_
              refine FWl.val 69 rfl rfl (Value.int .i64 j) _ (r_move) ?_
              have hA261 := hRc _ _ _ _ _ hRl ha16_236
              refine FWl.call 70 rfl rfl fd (#[Value.int .i64 1, Value.int .i64 i, Value.int .i64 j] ++ cap) (r_callV3 hcall rfl rfl rfl rfl rfl) ((hdo _ _ l 1 i j hH238 hA261 (Nat.le_trans hB0 hE_235.size) (by omega) (by omega) (by omega) (by omega)).mono ?_)
              rintro _ w260 ⟨rfl, C257, e258, hR259⟩
              have hL1_263 := hL1_237.trans e258
              have hH270 := e258.has
              have ha271 := Ext.refl (B := w260.heap.size) hH270
              refine FWl.nil (hK19 _ _ ?_)
              clear hK19 K19
              refine FW.region rfl ?_
              refine FWl.val 71 rfl rfl (Value.int .i64 i) _ (r_move) ?_
              refine FWl.val 72 rfl rfl (Value.int .i64 (i + 1)) _ (r_addI rfl rfl (by omega) (by omega)) ?_
              refine FWl.val 73 rfl rfl (Value.int .i64 j) _ (r_move) ?_
              refine FWl.val 74 rfl rfl (Value.int .i64 (j + 1)) _ (r_addI rfl rfl (by omega) (by omega)) ?_
              refine FWl.val 4 rfl rfl (Value.int .i64 (i + 1)) _ (r_assign) ?_
              refine FWl.val 5 rfl rfl (Value.int .i64 (j + 1)) _ (r_assign) ?_
              refine FWl.nil (inBlockF_norm (inBlockF_norm (thenF_norm (?_))))
              have hst := evsAt_keep (a := a) (b := b) (i := i) (j := j) (by omega) (by omega) (by omega) (by omega) (by omega)
              have hA272 := hRc _ _ _ _ _ hR259 ha271
              refine ⟨_, ⟨C257, i + 1, j + 1, q, (l ++ [(1, i, j)]), ⟨rfl, rfl, rfl, rfl, rfl, rfl, rfl, trivial⟩, hL1_263, hA272, ⟨by omega, by omega, by omega, by omega⟩, by omega, by omega, by rw [← hev, hst.1]; simp, rfl⟩, ?_⟩
              omega
            · have hp273 : ¬ (x245 = x250) := of_decide_eq_false hc255
              refine FW.seq_k fun K20 hK20 => ?_
              refine FW.region rfl ?_
              refine FWl.val 76 rfl rfl (Value.int .i64 i) _ (r_move) ?_
              refine FWl.val 77 rfl rfl (Value.pointer (some ⟨gf, 0, none⟩)) _ (r_move) ?_
              refine FWl.val 78 rfl rfl (Value.pointer (some ⟨gf, 0, none⟩)) _ (r_nilCheck rfl) ?_
              refine FWl.val 79 rfl rfl (Value.pointer (some ⟨gf, 0, none⟩)) _ (r_fieldAddrS Try.underlying100 rfl Try.sizeOf39 rfl rfl rfl rfl) ?_
              refine FWl.val 80 rfl rfl (Value.slice A1 a.length c1) _ (r_loadP1 Try.isAgg39 hcg_14 rfl rfl hH238) ?_
              refine FWl.val 81 rfl rfl (Value.int .i64 ((a.length : Nat) : Int)) _ (r_lenSl Try.underlying39 rfl) ?_
              refine FWl.val 82 rfl rfl (Value.bool (decide (i < ((a.length : Nat) : Int)))) _ (r_lss rfl rfl) ?_
              refine FWl.val 83 rfl rfl (Value.bool (decide (i < ((a.length : Nat) : Int)))) _ (r_move) ?_
              cases hb274 : (decide (i < ((a.length : Nat) : Int))) with
              | true =>
                have hp275 : i < ((a.length : Nat) : Int) := of_decide_eq_true hb274
                refine FWl.val 84 rfl rfl (Value.pointer (some ⟨gf, 0, none⟩)) _ (r_move) ?_
                refine FWl.val 85 rfl rfl (Value.int .i64 i) _ (r_move) ?_
                refine FWl.val 86 rfl rfl (Value.int .i64 (i + 1)) _ (r_addI rfl rfl (by omega) (by omega)) ?_
                refine FWl.val 87 rfl rfl (Value.int .i64 j) _ (r_move) ?_
                refine FWl.val 88 rfl rfl (Value.int .i64 q) _ (r_move) ?_
                refine FWl.val 89 rfl rfl (Value.int .i64 (q - 1)) _ (r_subI rfl rfl (by omega) (by omega)) ?_
                refine FWl.call 90 rfl rfl 49 #[Value.pointer (some ⟨gf, 0, none⟩), Value.int .i64 (i + 1), Value.int .i64 j, Value.int .i64 (q - 1)] (r_call4 Try.call49 rfl rfl rfl rfl rfl) ((within_p hH238 hcg_14 hsa_11 hsb_12 hsr_13 (i := i + 1) (j := j) (q := q - 1) (fun r hr => by obtain ⟨q, hq⟩ := rowsN_good h3 h4 r hr; exact hq.len) (by omega) (by omega) (by omega) h3 h4 (by omega)).mono ?_)
                rintro _ w276 ⟨rfl, e277⟩
                have hE_278 := hE_235.trans (e277.mono (Nat.le_trans hB0 hE_235.size))
                have ha16_279 := ha16_236.step e277
                have hL1_280 := hL1_237.trans (e277.mono (Nat.le_trans hB0 hE_235.size))
                have hH281 := e277.has
                refine FWl.val 91 rfl rfl (Value.bool (withinS b (rowsN a b (ed a b)) (i + 1) j (q - 1))) _ (r_pick (t := true) rfl) ?_
                refine FWl.val 75 rfl rfl (Value.bool (withinS b (rowsN a b (ed a b)) (i + 1) j (q - 1))) _ (r_assign) ?_
                refine FWl.nil (hK20 _ _ ?_)
                clear hK20 K20
                refine FW.cond (withinS b (rowsN a b (ed a b)) (i + 1) j (q - 1)) rfl (fun hc282 => ?_) (fun hc282 => ?_)
                · refine FW.seq_k fun K21 hK21 => ?_
                  refine FW.region rfl ?_
                  refine FWl.val 92 rfl rfl (Value.func (.func fd) #[] cap) _ (r_move) ?_
                  refine FWl.val 93 rfl rfl (Value.int .i64 i) _ (r_move) ?_
                  refine FWl.val 94 rfl rfl (Value.int .i64 j) _ (r_move) ?_
                  have hA288 := hRc _ _ _ _ _ hRl ha16_279
                  refine FWl.call 95 rfl rfl fd (#[Value.int .i64 2, Value.int .i64 i, Value.int .i64 j] ++ cap) (r_callV3 hcall rfl rfl rfl rfl rfl) ((hdo _ _ l 2 i j hH281 hA288 (Nat.le_trans hB0 hE_278.size) (by omega) (by omega) (by omega) (by omega)).mono ?_)
                  rintro _ w287 ⟨rfl, C284, e285, hR286⟩
                  have hL1_290 := hL1_280.trans e285
                  have hH297 := e285.has
                  have ha298 := Ext.refl (B := w287.heap.size) hH297
                  refine FWl.nil (hK21 _ _ ?_)
                  clear hK21 K21
                  refine FW.region rfl ?_
                  refine FWl.val 96 rfl rfl (Value.int .i64 i) _ (r_move) ?_
                  refine FWl.val 97 rfl rfl (Value.int .i64 (i + 1)) _ (r_addI rfl rfl (by omega) (by omega)) ?_
                  refine FWl.val 98 rfl rfl (Value.int .i64 q) _ (r_move) ?_
                  refine FWl.val 99 rfl rfl (Value.int .i64 (q - 1)) _ (r_subI rfl rfl (by omega) (by omega)) ?_
                  refine FWl.val 4 rfl rfl (Value.int .i64 (i + 1)) _ (r_assign) ?_
                  refine FWl.val 6 rfl rfl (Value.int .i64 (q - 1)) _ (r_assign) ?_
                  refine FWl.nil (inBlockF_norm (inBlockF_norm (thenF_norm (?_))))
                  have hneq : ¬ (j < (b.length : Int) ∧ rd a i = rd b j) := by first | (intro h; omega)
                  have hwi : E a b (i + 1) j + 1 ≤ E a b i j := by have := (within_iff h3 h4 (d := ed a b) (i := i + 1) (j := j) (q := q - 1) (by omega) (by omega) (by omega) (by omega) (by omega)).1 (by assumption); omega
                  have hst := evsAt_out (a := a) (b := b) (i := i) (j := j) (by omega) (by omega) (by omega) (by omega) hneq hwi
                  have hA299 := hRc _ _ _ _ _ hR286 ha298
                  refine ⟨_, ⟨C284, i + 1, j, q - 1, (l ++ [(2, i, j)]), ⟨rfl, rfl, rfl, rfl, rfl, rfl, rfl, trivial⟩, hL1_290, hA299, ⟨by omega, by omega, by omega, by omega⟩, by omega, by omega, by rw [← hev, hst.1]; simp, rfl⟩, ?_⟩
                  omega
                · refine FW.seq_k fun K22 hK22 => ?_
                  refine FW.region rfl ?_
                  refine FWl.val 25 rfl rfl (Value.func (.func fd) #[] cap) _ (r_move) ?_
                  refine FWl.val 26 rfl rfl (Value.int .i64 i) _ (r_move) ?_
                  refine FWl.val 27 rfl rfl (Value.int .i64 j) _ (r_move) ?_
                  have hA305 := hRc _ _ _ _ _ hRl ha16_279
                  refine FWl.call 28 rfl rfl fd (#[Value.int .i64 3, Value.int .i64 i, Value.int .i64 j] ++ cap) (r_callV3 hcall rfl rfl rfl rfl rfl) ((hdo _ _ l 3 i j hH281 hA305 (Nat.le_trans hB0 hE_278.size) (by omega) (by omega) (by omega) (by omega)).mono ?_)
                  rintro _ w304 ⟨rfl, C301, e302, hR303⟩
                  have hL1_307 := hL1_280.trans e302
                  have hH314 := e302.has
                  have ha315 := Ext.refl (B := w304.heap.size) hH314
                  refine FWl.nil (hK22 _ _ ?_)
                  clear hK22 K22
                  refine FW.region rfl ?_
                  refine FWl.val 29 rfl rfl (Value.int .i64 j) _ (r_move) ?_
                  refine FWl.val 30 rfl rfl (Value.int .i64 (j + 1)) _ (r_addI rfl rfl (by omega) (by omega)) ?_
                  refine FWl.val 31 rfl rfl (Value.int .i64 q) _ (r_move) ?_
                  refine FWl.val 32 rfl rfl (Value.int .i64 (q - 1)) _ (r_subI rfl rfl (by omega) (by omega)) ?_
                  refine FWl.val 5 rfl rfl (Value.int .i64 (j + 1)) _ (r_assign) ?_
                  refine FWl.val 6 rfl rfl (Value.int .i64 (q - 1)) _ (r_assign) ?_
                  refine FWl.nil (inBlockF_norm (inBlockF_norm (thenF_norm (?_))))
                  have hneq : ¬ (i < (a.length : Int) ∧ j < (b.length : Int) ∧ rd a i = rd b j) := by first | (intro h; omega)
                  have hwi : ¬ (i < (a.length : Int) ∧ E a b (i + 1) j + 1 ≤ E a b i j) := by first | (intro h; omega) | (rintro ⟨h, h'⟩; have := (within_iff h3 h4 (d := ed a b) (i := i + 1) (j := j) (q := q - 1) (by omega) (by omega) (by omega) (by omega) (by omega)).2 ⟨by omega, by omega⟩; simp_all)
                  have hjb := (evsAt_in (a := a) (b := b) (i := i) (j := j) (by omega) (by omega) (by omega) (by omega) (by omega) hneq hwi).1
                  have hst := (evsAt_in (a := a) (b := b) (i := i) (j := j) (by omega) (by omega) (by omega) (by omega) (by omega) hneq hwi).2
                  have hA316 := hRc _ _ _ _ _ hR303 ha315
                  refine ⟨_, ⟨C301, i, j + 1, q - 1, (l ++ [(3, i, j)]), ⟨rfl, rfl, rfl, rfl, rfl, rfl, rfl, trivial⟩, hL1_307, hA316, ⟨by omega, by omega, by omega, by omega⟩, by omega, by omega, by rw [← hev, hst.1]; simp, rfl⟩, ?_⟩
                  omega
              | false =>
                have hp317 : ¬ (i < ((a.length : Nat) : Int)) := of_decide_eq_false hb274
                refine FWl.skip 84 rfl rfl ?_
                refine FWl.skip 85 rfl rfl ?_
                refine FWl.skip 86 rfl rfl ?_
                refine FWl.skip 87 rfl rfl ?_
                refine FWl.skip 88 rfl rfl ?_
                refine FWl.skip 89 rfl rfl ?_
                refine FWl.skip 90 rfl rfl ?_
                refine FWl.val 91 rfl rfl (Value.bool false) _ (r_pick (t := false) rfl) ?_
                refine FWl.val 75 rfl rfl (Value.bool false) _ (r_assign) ?_
                refine FWl.nil (hK20 _ _ ?_)
                clear hK20 K20
                refine FW.cond false rfl (fun h => nomatch h) (fun _ => ?_)
                refine FW.seq_k fun K23 hK23 => ?_
                refine FW.region rfl ?_
                refine FWl.val 25 rfl rfl (Value.func (.func fd) #[] cap) _ (r_move) ?_
                refine FWl.val 26 rfl rfl (Value.int .i64 i) _ (r_move) ?_
                refine FWl.val 27 rfl rfl (Value.int .i64 j) _ (r_move) ?_
                have hA322 := hRc _ _ _ _ _ hRl ha16_236
                refine FWl.call 28 rfl rfl fd (#[Value.int .i64 3, Value.int .i64 i, Value.int .i64 j] ++ cap) (r_callV3 hcall rfl rfl rfl rfl rfl) ((hdo _ _ l 3 i j hH238 hA322 (Nat.le_trans hB0 hE_235.size) (by omega) (by omega) (by omega) (by omega)).mono ?_)
                rintro _ w321 ⟨rfl, C318, e319, hR320⟩
                have hL1_324 := hL1_237.trans e319
                have hH331 := e319.has
                have ha332 := Ext.refl (B := w321.heap.size) hH331
                refine FWl.nil (hK23 _ _ ?_)
                clear hK23 K23
                refine FW.region rfl ?_
                refine FWl.val 29 rfl rfl (Value.int .i64 j) _ (r_move) ?_
                refine FWl.val 30 rfl rfl (Value.int .i64 (j + 1)) _ (r_addI rfl rfl (by omega) (by omega)) ?_
                refine FWl.val 31 rfl rfl (Value.int .i64 q) _ (r_move) ?_
                refine FWl.val 32 rfl rfl (Value.int .i64 (q - 1)) _ (r_subI rfl rfl (by omega) (by omega)) ?_
                refine FWl.val 5 rfl rfl (Value.int .i64 (j + 1)) _ (r_assign) ?_
                refine FWl.val 6 rfl rfl (Value.int .i64 (q - 1)) _ (r_assign) ?_
                refine FWl.nil (inBlockF_norm (inBlockF_norm (thenF_norm (?_))))
                have hneq : ¬ (i < (a.length : Int) ∧ j < (b.length : Int) ∧ rd a i = rd b j) := by first | (intro h; omega)
                have hwi : ¬ (i < (a.length : Int) ∧ E a b (i + 1) j + 1 ≤ E a b i j) := by first | (intro h; omega) | (rintro ⟨h, h'⟩; have := (within_iff h3 h4 (d := ed a b) (i := i + 1) (j := j) (q := q - 1) (by omega) (by omega) (by omega) (by omega) (by omega)).2 ⟨by omega, by omega⟩; simp_all)
                have hjb := (evsAt_in (a := a) (b := b) (i := i) (j := j) (by omega) (by omega) (by omega) (by omega) (by omega) hneq hwi).1
                have hst := (evsAt_in (a := a) (b := b) (i := i) (j := j) (by omega) (by omega) (by omega) (by omega) (by omega) hneq hwi).2
                have hA333 := hRc _ _ _ _ _ hR320 ha332
                refine ⟨_, ⟨C318, i, j + 1, q - 1, (l ++ [(3, i, j)]), ⟨rfl, rfl, rfl, rfl, rfl, rfl, rfl, trivial⟩, hL1_324, hA333, ⟨by omega, by omega, by omega, by omega⟩, by omega, by omega, by rw [← hev, hst.1]; simp, rfl⟩, ?_⟩
                omega
          | false =>
            have hp334 : ¬ (j < ((b.length : Nat) : Int)) := of_decide_eq_false hb243
            refine FWs.takeSkip rfl 51 rfl rfl hS239 ?_
            refine FWs.takeSkip rfl 52 rfl rfl hS239 ?_
            refine FWs.takeSkip rfl 53 rfl rfl hS239 ?_
            refine FWs.takeSkip rfl 54 rfl rfl hS239 ?_
            refine FWs.takeSkip rfl 55 rfl rfl hS239 ?_
            refine FWs.takeSkip rfl 56 rfl rfl hS239 ?_
            refine FWs.takeSkip rfl 57 rfl rfl hS239 ?_
            refine FWs.takeSkip rfl 58 rfl rfl hS239 ?_
            refine FWs.takeSkip rfl 59 rfl rfl hS239 ?_
            refine FWs.takeSkip rfl 60 rfl rfl hS239 ?_
            refine FWs.takeSkip rfl 61 rfl rfl hS239 ?_
            refine FWs.skip rfl 62 rfl rfl (.inr hS239) ?_
            refine FWs.skip rfl 63 rfl rfl (.inr hS239) ?_
            refine FWs.skip rfl 64 rfl rfl (.inr hS239) ?_
            refine FWs.skip rfl 65 rfl rfl (.inr hS239) ?_
            refine FWs.val rfl 66 rfl rfl (Value.bool false) _ (r_pick (t := false) rfl) (.inr hS239) ?_
            refine FWs.val rfl 33 rfl rfl (Value.bool false) _ (r_assign) (.inr hS239) ?_
            refine FWs.nil (hK18 _ _ ?_)
            clear hK18 K18
            refine FW.cond false rfl (fun h => nomatch h) (fun _ => ?_)
            refine FW.seq_k fun K24 hK24 => ?_
            refine FW.region rfl ?_
            refine FWl.val 76 rfl rfl (Value.int .i64 i) _ (r_move) ?_
            refine FWl.val 77 rfl rfl (Value.pointer (some ⟨gf, 0, none⟩)) _ (r_move) ?_
            refine FWl.val 78 rfl rfl (Value.pointer (some ⟨gf, 0, none⟩)) _ (r_nilCheck rfl) ?_
            refine FWl.val 79 rfl rfl (Value.pointer (some ⟨gf, 0, none⟩)) _ (r_fieldAddrS Try.underlying100 rfl Try.sizeOf39 rfl rfl rfl rfl) ?_
            refine FWl.val 80 rfl rfl (Value.slice A1 a.length c1) _ (r_loadP1 Try.isAgg39 hcg_14 rfl rfl hH238) ?_
            refine FWl.val 81 rfl rfl (Value.int .i64 ((a.length : Nat) : Int)) _ (r_lenSl Try.underlying39 rfl) ?_
            refine FWl.val 82 rfl rfl (Value.bool (decide (i < ((a.length : Nat) : Int)))) _ (r_lss rfl rfl) ?_
            refine FWl.val 83 rfl rfl (Value.bool (decide (i < ((a.length : Nat) : Int)))) _ (r_move) ?_
            cases hb335 : (decide (i < ((a.length : Nat) : Int))) with
            | true =>
              have hp336 : i < ((a.length : Nat) : Int) := of_decide_eq_true hb335
              refine FWl.val 84 rfl rfl (Value.pointer (some ⟨gf, 0, none⟩)) _ (r_move) ?_
              refine FWl.val 85 rfl rfl (Value.int .i64 i) _ (r_move) ?_
              refine FWl.val 86 rfl rfl (Value.int .i64 (i + 1)) _ (r_addI rfl rfl (by omega) (by omega)) ?_
              refine FWl.val 87 rfl rfl (Value.int .i64 j) _ (r_move) ?_
              refine FWl.val 88 rfl rfl (Value.int .i64 q) _ (r_move) ?_
              refine FWl.val 89 rfl rfl (Value.int .i64 (q - 1)) _ (r_subI rfl rfl (by omega) (by omega)) ?_
              refine FWl.call 90 rfl rfl 49 #[Value.pointer (some ⟨gf, 0, none⟩), Value.int .i64 (i + 1), Value.int .i64 j, Value.int .i64 (q - 1)] (r_call4 Try.call49 rfl rfl rfl rfl rfl) ((within_p hH238 hcg_14 hsa_11 hsb_12 hsr_13 (i := i + 1) (j := j) (q := q - 1) (fun r hr => by obtain ⟨q, hq⟩ := rowsN_good h3 h4 r hr; exact hq.len) (by omega) (by omega) (by omega) h3 h4 (by omega)).mono ?_)
              rintro _ w337 ⟨rfl, e338⟩
              have hE_339 := hE_235.trans (e338.mono (Nat.le_trans hB0 hE_235.size))
              have ha16_340 := ha16_236.step e338
              have hL1_341 := hL1_237.trans (e338.mono (Nat.le_trans hB0 hE_235.size))
              have hH342 := e338.has
              refine FWl.val 91 rfl rfl (Value.bool (withinS b (rowsN a b (ed a b)) (i + 1) j (q - 1))) _ (r_pick (t := true) rfl) ?_
              refine FWl.val 75 rfl rfl (Value.bool (withinS b (rowsN a b (ed a b)) (i + 1) j (q - 1))) _ (r_assign) ?_
              refine FWl.nil (hK24 _ _ ?_)
              clear hK24 K24
              refine FW.cond (withinS b (rowsN a b (ed a b)) (i + 1) j (q - 1)) rfl (fun hc343 => ?_) (fun hc343 => ?_)
              · refine FW.seq_k fun K25 hK25 => ?_
                refine FW.region rfl ?_
                refine FWl.val 92 rfl rfl (Value.func (.func fd) #[] cap) _ (r_move) ?_
                refine FWl.val 93 rfl rfl (Value.int .i64 i) _ (r_move) ?_
                refine FWl.val 94 rfl rfl (Value.int .i64 j) _ (r_move) ?_
                have hA349 := hRc _ _ _ _ _ hRl ha16_340
                refine FWl.call 95 rfl rfl fd (#[Value.int .i64 2, Value.int .i64 i, Value.int .i64 j] ++ cap) (r_callV3 hcall rfl rfl rfl rfl rfl) ((hdo _ _ l 2 i j hH342 hA349 (Nat.le_trans hB0 hE_339.size) (by omega) (by omega) (by omega) (by omega)).mono ?_)
                rintro _ w348 ⟨rfl, C345, e346, hR347⟩
                have hL1_351 := hL1_341.trans e346
                have hH356 := e346.has
                have ha357 := Ext.refl (B := w348.heap.size) hH356
                refine FWl.nil (hK25 _ _ ?_)
                clear hK25 K25
                refine FW.region rfl ?_
                refine FWl.val 96 rfl rfl (Value.int .i64 i) _ (r_move) ?_
                refine FWl.val 97 rfl rfl (Value.int .i64 (i + 1)) _ (r_addI rfl rfl (by omega) (by omega)) ?_
                refine FWl.val 98 rfl rfl (Value.int .i64 q) _ (r_move) ?_
                refine FWl.val 99 rfl rfl (Value.int .i64 (q - 1)) _ (r_subI rfl rfl (by omega) (by omega)) ?_
                refine FWl.val 4 rfl rfl (Value.int .i64 (i + 1)) _ (r_assign) ?_
                refine FWl.val 6 rfl rfl (Value.int .i64 (q - 1)) _ (r_assign) ?_
                refine FWl.nil (inBlockF_norm (inBlockF_norm (thenF_norm (?_))))
                have hneq : ¬ (j < (b.length : Int) ∧ rd a i = rd b j) := by first | (intro h; omega)
                have hwi : E a b (i + 1) j + 1 ≤ E a b i j := by have := (within_iff h3 h4 (d := ed a b) (i := i + 1) (j := j) (q := q - 1) (by omega) (by omega) (by omega) (by omega) (by omega)).1 (by assumption); omega
                have hst := evsAt_out (a := a) (b := b) (i := i) (j := j) (by omega) (by omega) (by omega) (by omega) hneq hwi
                have hA358 := hRc _ _ _ _ _ hR347 ha357
                refine ⟨_, ⟨C345, i + 1, j, q - 1, (l ++ [(2, i, j)]), ⟨rfl, rfl, rfl, rfl, rfl, rfl, rfl, trivial⟩, hL1_351, hA358, ⟨by omega, by omega, by omega, by omega⟩, by omega, by omega, by rw [← hev, hst.1]; simp, rfl⟩, ?_⟩
                omega
              · refine FW.seq_k fun K26 hK26 => ?_
                refine FW.region rfl ?_
                refine FWl.val 25 rfl rfl (Value.func (.func fd) #[] cap) _ (r_move) ?_
                refine FWl.val 26 rfl rfl (Value.int .i64 i) _ (r_move) ?_
                refine FWl.val 27 rfl rfl (Value.int .i64 j) _ (r_move) ?_
                have hA364 := hRc _ _ _ _ _ hRl ha16_340
                refine FWl.call 28 rfl rfl fd (#[Value.int .i64 3, Value.int .i64 i, Value.int .i64 j] ++ cap) (r_callV3 hcall rfl rfl rfl rfl rfl) ((hdo _ _ l 3 i j hH342 hA364 (Nat.le_trans hB0 hE_339.size) (by omega) (by omega) (by omega) (by omega)).mono ?_)
                rintro _ w363 ⟨rfl, C360, e361, hR362⟩
                have hL1_366 := hL1_341.trans e361
                have hH371 := e361.has
                have ha372 := Ext.refl (B := w363.heap.size) hH371
                refine FWl.nil (hK26 _ _ ?_)
                clear hK26 K26
                refine FW.region rfl ?_
                refine FWl.val 29 rfl rfl (Value.int .i64 j) _ (r_move) ?_
                refine FWl.val 30 rfl rfl (Value.int .i64 (j + 1)) _ (r_addI rfl rfl (by omega) (by omega)) ?_
                refine FWl.val 31 rfl rfl (Value.int .i64 q) _ (r_move) ?_
                refine FWl.val 32 rfl rfl (Value.int .i64 (q - 1)) _ (r_subI rfl rfl (by omega) (by omega)) ?_
                refine FWl.val 5 rfl rfl (Value.int .i64 (j + 1)) _ (r_assign) ?_
                refine FWl.val 6 rfl rfl (Value.int .i64 (q - 1)) _ (r_assign) ?_
                refine FWl.nil (inBlockF_norm (inBlockF_norm (thenF_norm (?_))))
                have hneq : ¬ (i < (a.length : Int) ∧ j < (b.length : Int) ∧ rd a i = rd b j) := by first | (intro h; omega)
                have hwi : ¬ (i < (a.length : Int) ∧ E a b (i + 1) j + 1 ≤ E a b i j) := by first | (intro h; omega) | (rintro ⟨h, h'⟩; have := (within_iff h3 h4 (d := ed a b) (i := i + 1) (j := j) (q := q - 1) (by omega) (by omega) (by omega) (by omega) (by omega)).2 ⟨by omega, by omega⟩; simp_all)
                have hjb := (evsAt_in (a := a) (b := b) (i := i) (j := j) (by omega) (by omega) (by omega) (by omega) (by omega) hneq hwi).1
                have hst := (evsAt_in (a := a) (b := b) (i := i) (j := j) (by omega) (by omega) (by omega) (by omega) (by omega) hneq hwi).2
                have hA373 := hRc _ _ _ _ _ hR362 ha372
                refine ⟨_, ⟨C360, i, j + 1, q - 1, (l ++ [(3, i, j)]), ⟨rfl, rfl, rfl, rfl, rfl, rfl, rfl, trivial⟩, hL1_366, hA373, ⟨by omega, by omega, by omega, by omega⟩, by omega, by omega, by rw [← hev, hst.1]; simp, rfl⟩, ?_⟩
                omega
            | false =>
              have hp374 : ¬ (i < ((a.length : Nat) : Int)) := of_decide_eq_false hb335
              refine FWl.skip 84 rfl rfl ?_
              refine FWl.skip 85 rfl rfl ?_
              refine FWl.skip 86 rfl rfl ?_
              refine FWl.skip 87 rfl rfl ?_
              refine FWl.skip 88 rfl rfl ?_
              refine FWl.skip 89 rfl rfl ?_
              refine FWl.skip 90 rfl rfl ?_
              refine FWl.val 91 rfl rfl (Value.bool false) _ (r_pick (t := false) rfl) ?_
              refine FWl.val 75 rfl rfl (Value.bool false) _ (r_assign) ?_
              refine FWl.nil (hK24 _ _ ?_)
              clear hK24 K24
              refine FW.cond false rfl (fun h => nomatch h) (fun _ => ?_)
              refine FW.seq_k fun K27 hK27 => ?_
              refine FW.region rfl ?_
              refine FWl.val 25 rfl rfl (Value.func (.func fd) #[] cap) _ (r_move) ?_
              refine FWl.val 26 rfl rfl (Value.int .i64 i) _ (r_move) ?_
              refine FWl.val 27 rfl rfl (Value.int .i64 j) _ (r_move) ?_
              have hA379 := hRc _ _ _ _ _ hRl ha16_236
              refine FWl.call 28 rfl rfl fd (#[Value.int .i64 3, Value.int .i64 i, Value.int .i64 j] ++ cap) (r_callV3 hcall rfl rfl rfl rfl rfl) ((hdo _ _ l 3 i j hH238 hA379 (Nat.le_trans hB0 hE_235.size) (by omega) (by omega) (by omega) (by omega)).mono ?_)
              rintro _ w378 ⟨rfl, C375, e376, hR377⟩
              have hL1_381 := hL1_237.trans e376
              have hH386 := e376.has
              have ha387 := Ext.refl (B := w378.heap.size) hH386
              refine FWl.nil (hK27 _ _ ?_)
              clear hK27 K27
              refine FW.region rfl ?_
              refine FWl.val 29 rfl rfl (Value.int .i64 j) _ (r_move) ?_
              refine FWl.val 30 rfl rfl (Value.int .i64 (j + 1)) _ (r_addI rfl rfl (by omega) (by omega)) ?_
              refine FWl.val 31 rfl rfl (Value.int .i64 q) _ (r_move) ?_
              refine FWl.val 32 rfl rfl (Value.int .i64 (q - 1)) _ (r_subI rfl rfl (by omega) (by omega)) ?_
              refine FWl.val 5 rfl rfl (Value.int .i64 (j + 1)) _ (r_assign) ?_
              refine FWl.val 6 rfl rfl (Value.int .i64 (q - 1)) _ (r_assign) ?_
              refine FWl.nil (inBlockF_norm (inBlockF_norm (thenF_norm (?_))))
              have hneq : ¬ (i < (a.length : Int) ∧ j < (b.length : Int) ∧ rd a i = rd b j) := by first | (intro h; omega)
              have hwi : ¬ (i < (a.length : Int) ∧ E a b (i + 1) j + 1 ≤ E a b i j) := by first | (intro h; omega) | (rintro ⟨h, h'⟩; have := (within_iff h3 h4 (d := ed a b) (i := i + 1) (j := j) (q := q - 1) (by omega) (by omega) (by omega) (by omega) (by omega)).2 ⟨by omega, by omega⟩; simp_all)
              have hjb := (evsAt_in (a := a) (b := b) (i := i) (j := j) (by omega) (by omega) (by omega) (by omega) (by omega) hneq hwi).1
              have hst := (evsAt_in (a := a) (b := b) (i := i) (j := j) (by omega) (by omega) (by omega) (by omega) (by omega) hneq hwi).2
              have hA388 := hRc _ _ _ _ _ hR377 ha387
              refine ⟨_, ⟨C375, i, j + 1, q - 1, (l ++ [(3, i, j)]), ⟨rfl, rfl, rfl, rfl, rfl, rfl, rfl, trivial⟩, hL1_381, hA388, ⟨by omega, by omega, by omega, by omega⟩, by omega, by omega, by rw [← hev, hst.1]; simp, rfl⟩, ?_⟩
              omega
        | false =>
          have hp389 : ¬ (i < ((a.length : Nat) : Int)) := of_decide_eq_false hb241
          refine FWs.takeSkip rfl 42 rfl rfl hS239 ?_
          refine FWs.skip rfl 43 rfl rfl (.inr hS239) ?_
          refine FWs.skip rfl 44 rfl rfl (.inr hS239) ?_
          refine FWs.skip rfl 45 rfl rfl (.inr hS239) ?_
          refine FWs.skip rfl 46 rfl rfl (.inr hS239) ?_
          refine FWs.skip rfl 47 rfl rfl (.inr hS239) ?_
          refine FWs.skip rfl 48 rfl rfl (.inr hS239) ?_
          refine FWs.val rfl 49 rfl rfl (Value.bool false) _ (r_pick (t := false) rfl) (.inr hS239) ?_
          refine FWs.val rfl 50 rfl rfl (Value.bool false) _ (r_move) (.inr hS239) ?_
          refine FWs.takeSkip rfl 51 rfl rfl hS239 ?_
          refine FWs.takeSkip rfl 52 rfl rfl hS239 ?_
          refine FWs.takeSkip rfl 53 rfl rfl hS239 ?_
          refine FWs.takeSkip rfl 54 rfl rfl hS239 ?_
          refine FWs.takeSkip rfl 55 rfl rfl hS239 ?_
          refine FWs.takeSkip rfl 56 rfl rfl hS239 ?_
          refine FWs.takeSkip rfl 57 rfl rfl hS239 ?_
          refine FWs.takeSkip rfl 58 rfl rfl hS239 ?_
          refine FWs.takeSkip rfl 59 rfl rfl hS239 ?_
          refine FWs.takeSkip rfl 60 rfl rfl hS239 ?_
          refine FWs.takeSkip rfl 61 rfl rfl hS239 ?_
          refine FWs.skip rfl 62 rfl rfl (.inr hS239) ?_
          refine FWs.skip rfl 63 rfl rfl (.inr hS239) ?_
          refine FWs.skip rfl 64 rfl rfl (.inr hS239) ?_
          refine FWs.skip rfl 65 rfl rfl (.inr hS239) ?_
          refine FWs.val rfl 66 rfl rfl (Value.bool false) _ (r_pick (t := false) rfl) (.inr hS239) ?_
          refine FWs.val rfl 33 rfl rfl (Value.bool false) _ (r_assign) (.inr hS239) ?_
          refine FWs.nil (hK18 _ _ ?_)
          clear hK18 K18
          refine FW.cond false rfl (fun h => nomatch h) (fun _ => ?_)
          refine FW.seq_k fun K28 hK28 => ?_
          refine FW.region rfl ?_
          refine FWl.val 76 rfl rfl (Value.int .i64 i) _ (r_move) ?_
          refine FWl.val 77 rfl rfl (Value.pointer (some ⟨gf, 0, none⟩)) _ (r_move) ?_
          refine FWl.val 78 rfl rfl (Value.pointer (some ⟨gf, 0, none⟩)) _ (r_nilCheck rfl) ?_
          refine FWl.val 79 rfl rfl (Value.pointer (some ⟨gf, 0, none⟩)) _ (r_fieldAddrS Try.underlying100 rfl Try.sizeOf39 rfl rfl rfl rfl) ?_
          refine FWl.val 80 rfl rfl (Value.slice A1 a.length c1) _ (r_loadP1 Try.isAgg39 hcg_14 rfl rfl hH238) ?_
          refine FWl.val 81 rfl rfl (Value.int .i64 ((a.length : Nat) : Int)) _ (r_lenSl Try.underlying39 rfl) ?_
          refine FWl.val 82 rfl rfl (Value.bool (decide (i < ((a.length : Nat) : Int)))) _ (r_lss rfl rfl) ?_
          refine FWl.val 83 rfl rfl (Value.bool (decide (i < ((a.length : Nat) : Int)))) _ (r_move) ?_
          cases hb390 : (decide (i < ((a.length : Nat) : Int))) with
          | true =>
            have hp391 : i < ((a.length : Nat) : Int) := of_decide_eq_true hb390
            refine FWl.val 84 rfl rfl (Value.pointer (some ⟨gf, 0, none⟩)) _ (r_move) ?_
            refine FWl.val 85 rfl rfl (Value.int .i64 i) _ (r_move) ?_
            refine FWl.val 86 rfl rfl (Value.int .i64 (i + 1)) _ (r_addI rfl rfl (by omega) (by omega)) ?_
            refine FWl.val 87 rfl rfl (Value.int .i64 j) _ (r_move) ?_
            refine FWl.val 88 rfl rfl (Value.int .i64 q) _ (r_move) ?_
            refine FWl.val 89 rfl rfl (Value.int .i64 (q - 1)) _ (r_subI rfl rfl (by omega) (by omega)) ?_
            refine FWl.call 90 rfl rfl 49 #[Value.pointer (some ⟨gf, 0, none⟩), Value.int .i64 (i + 1), Value.int .i64 j, Value.int .i64 (q - 1)] (r_call4 Try.call49 rfl rfl rfl rfl rfl) ((within_p hH238 hcg_14 hsa_11 hsb_12 hsr_13 (i := i + 1) (j := j) (q := q - 1) (fun r hr => by obtain ⟨q, hq⟩ := rowsN_good h3 h4 r hr; exact hq.len) (by omega) (by omega) (by omega) h3 h4 (by omega)).mono ?_)
            rintro _ w392 ⟨rfl, e393⟩
            have hE_394 := hE_235.trans (e393.mono (Nat.le_trans hB0 hE_235.size))
            have ha16_395 := ha16_236.step e393
            have hL1_396 := hL1_237.trans (e393.mono (Nat.le_trans hB0 hE_235.size))
            have hH397 := e393.has
            refine FWl.val 91 rfl rfl (Value.bool (withinS b (rowsN a b (ed a b)) (i + 1) j (q - 1))) _ (r_pick (t := true) rfl) ?_
            refine FWl.val 75 rfl rfl (Value.bool (withinS b (rowsN a b (ed a b)) (i + 1) j (q - 1))) _ (r_assign) ?_
            refine FWl.nil (hK28 _ _ ?_)
            clear hK28 K28
            refine FW.cond (withinS b (rowsN a b (ed a b)) (i + 1) j (q - 1)) rfl (fun hc398 => ?_) (fun hc398 => ?_)
            · refine FW.seq_k fun K29 hK29 => ?_
              refine FW.region rfl ?_
              refine FWl.val 92 rfl rfl (Value.func (.func fd) #[] cap) _ (r_move) ?_
              refine FWl.val 93 rfl rfl (Value.int .i64 i) _ (r_move) ?_
              refine FWl.val 94 rfl rfl (Value.int .i64 j) _ (r_move) ?_
              have hA404 := hRc _ _ _ _ _ hRl ha16_395
              refine FWl.call 95 rfl rfl fd (#[Value.int .i64 2, Value.int .i64 i, Value.int .i64 j] ++ cap) (r_callV3 hcall rfl rfl rfl rfl rfl) ((hdo _ _ l 2 i j hH397 hA404 (Nat.le_trans hB0 hE_394.size) (by omega) (by omega) (by omega) (by omega)).mono ?_)
              rintro _ w403 ⟨rfl, C400, e401, hR402⟩
              have hL1_406 := hL1_396.trans e401
              have hH411 := e401.has
              have ha412 := Ext.refl (B := w403.heap.size) hH411
              refine FWl.nil (hK29 _ _ ?_)
              clear hK29 K29
              refine FW.region rfl ?_
              refine FWl.val 96 rfl rfl (Value.int .i64 i) _ (r_move) ?_
              refine FWl.val 97 rfl rfl (Value.int .i64 (i + 1)) _ (r_addI rfl rfl (by omega) (by omega)) ?_
              refine FWl.val 98 rfl rfl (Value.int .i64 q) _ (r_move) ?_
              refine FWl.val 99 rfl rfl (Value.int .i64 (q - 1)) _ (r_subI rfl rfl (by omega) (by omega)) ?_
              refine FWl.val 4 rfl rfl (Value.int .i64 (i + 1)) _ (r_assign) ?_
              refine FWl.val 6 rfl rfl (Value.int .i64 (q - 1)) _ (r_assign) ?_
              refine FWl.nil (inBlockF_norm (inBlockF_norm (thenF_norm (?_))))
              have hneq : ¬ (j < (b.length : Int) ∧ rd a i = rd b j) := by first | (intro h; omega)
              have hwi : E a b (i + 1) j + 1 ≤ E a b i j := by have := (within_iff h3 h4 (d := ed a b) (i := i + 1) (j := j) (q := q - 1) (by omega) (by omega) (by omega) (by omega) (by omega)).1 (by assumption); omega
              have hst := evsAt_out (a := a) (b := b) (i := i) (j := j) (by omega) (by omega) (by omega) (by omega) hneq hwi
              have hA413 := hRc _ _ _ _ _ hR402 ha412
              refine ⟨_, ⟨C400, i + 1, j, q - 1, (l ++ [(2, i, j)]), ⟨rfl, rfl, rfl, rfl, rfl, rfl, rfl, trivial⟩, hL1_406, hA413, ⟨by omega, by omega, by omega, by omega⟩, by omega, by omega, by rw [← hev, hst.1]; simp, rfl⟩, ?_⟩
              omega
            · refine FW.seq_k fun K30 hK30 => ?_
              refine FW.region rfl ?_
              refine FWl.val 25 rfl rfl (Value.func (.func fd) #[] cap) _ (r_move) ?_
              refine FWl.val 26 rfl rfl (Value.int .i64 i) _ (r_move) ?_
              refine FWl.val 27 rfl rfl (Value.int .i64 j) _ (r_move) ?_
              have hA419 := hRc _ _ _ _ _ hRl ha16_395
              refine FWl.call 28 rfl rfl fd (#[Value.int .i64 3, Value.int .i64 i, Value.int .i64 j] ++ cap) (r_callV3 hcall rfl rfl rfl rfl rfl) ((hdo _ _ l 3 i j hH397 hA419 (Nat.le_trans hB0 hE_394.size) (by omega) (by omega) (by omega) (by omega)).mono ?_)
              rintro _ w418 ⟨rfl, C415, e416, hR417⟩
              have hL1_421 := hL1_396.trans e416
              have hH426 := e416.has
              have ha427 := Ext.refl (B := w418.heap.size) hH426
              refine FWl.nil (hK30 _ _ ?_)
              clear hK30 K30
              refine FW.region rfl ?_
              refine FWl.val 29 rfl rfl (Value.int .i64 j) _ (r_move) ?_
              refine FWl.val 30 rfl rfl (Value.int .i64 (j + 1)) _ (r_addI rfl rfl (by omega) (by omega)) ?_
              refine FWl.val 31 rfl rfl (Value.int .i64 q) _ (r_move) ?_
              refine FWl.val 32 rfl rfl (Value.int .i64 (q - 1)) _ (r_subI rfl rfl (by omega) (by omega)) ?_
              refine FWl.val 5 rfl rfl (Value.int .i64 (j + 1)) _ (r_assign) ?_
              refine FWl.val 6 rfl rfl (Value.int .i64 (q - 1)) _ (r_assign) ?_
              refine FWl.nil (inBlockF_norm (inBlockF_norm (thenF_norm (?_))))
              have hneq : ¬ (i < (a.length : Int) ∧ j < (b.length : Int) ∧ rd a i = rd b j) := by first | (intro h; omega)
              have hwi : ¬ (i < (a.length : Int) ∧ E a b (i + 1) j + 1 ≤ E a b i j) := by first | (intro h; omega) | (rintro ⟨h, h'⟩; have := (within_iff h3 h4 (d := ed a b) (i := i + 1) (j := j) (q := q - 1) (by omega) (by omega) (by omega) (by omega) (by omega)).2 ⟨by omega, by omega⟩; simp_all)
              have hjb := (evsAt_in (a := a) (b := b) (i := i) (j := j) (by omega) (by omega) (by omega) (by omega) (by omega) hneq hwi).1
              have hst := (evsAt_in (a := a) (b := b) (i := i) (j := j) (by omega) (by omega) (by omega) (by omega) (by omega) hneq hwi).2
              have hA428 := hRc _ _ _ _ _ hR417 ha427
              refine ⟨_, ⟨C415, i, j + 1, q - 1, (l ++ [(3, i, j)]), ⟨rfl, rfl, rfl, rfl, rfl, rfl, rfl, trivial⟩, hL1_421, hA428, ⟨by omega, by omega, by omega, by omega⟩, by omega, by omega, by rw [← hev, hst.1]; simp, rfl⟩, ?_⟩
              omega
          | false =>
            have hp429 : ¬ (i < ((a.length : Nat) : Int)) := of_decide_eq_false hb390
            refine FWl.skip 84 rfl rfl ?_
            refine FWl.skip 85 rfl rfl ?_
            refine FWl.skip 86 rfl rfl ?_
            refine FWl.skip 87 rfl rfl ?_
            refine FWl.skip 88 rfl rfl ?_
            refine FWl.skip 89 rfl rfl ?_
            refine FWl.skip 90 rfl rfl ?_
            refine FWl.val 91 rfl rfl (Value.bool false) _ (r_pick (t := false) rfl) ?_
            refine FWl.val 75 rfl rfl (Value.bool false) _ (r_assign) ?_
            refine FWl.nil (hK28 _ _ ?_)
            clear hK28 K28
            refine FW.cond false rfl (fun h => nomatch h) (fun _ => ?_)
            refine FW.seq_k fun K31 hK31 => ?_
            refine FW.region rfl ?_
            refine FWl.val 25 rfl rfl (Value.func (.func fd) #[] cap) _ (r_move) ?_
            refine FWl.val 26 rfl rfl (Value.int .i64 i) _ (r_move) ?_
            refine FWl.val 27 rfl rfl (Value.int .i64 j) _ (r_move) ?_
            have hA434 := hRc _ _ _ _ _ hRl ha16_236
            refine FWl.call 28 rfl rfl fd (#[Value.int .i64 3, Value.int .i64 i, Value.int .i64 j] ++ cap) (r_callV3 hcall rfl rfl rfl rfl rfl) ((hdo _ _ l 3 i j hH238 hA434 (Nat.le_trans hB0 hE_235.size) (by omega) (by omega) (by omega) (by omega)).mono ?_)
            rintro _ w433 ⟨rfl, C430, e431, hR432⟩
            have hL1_436 := hL1_237.trans e431
            have hH441 := e431.has
            have ha442 := Ext.refl (B := w433.heap.size) hH441
            refine FWl.nil (hK31 _ _ ?_)
            clear hK31 K31
            refine FW.region rfl ?_
            refine FWl.val 29 rfl rfl (Value.int .i64 j) _ (r_move) ?_
            refine FWl.val 30 rfl rfl (Value.int .i64 (j + 1)) _ (r_addI rfl rfl (by omega) (by omega)) ?_
            refine FWl.val 31 rfl rfl (Value.int .i64 q) _ (r_move) ?_
            refine FWl.val 32 rfl rfl (Value.int .i64 (q - 1)) _ (r_subI rfl rfl (by omega) (by omega)) ?_
            refine FWl.val 5 rfl rfl (Value.int .i64 (j + 1)) _ (r_assign) ?_
            refine FWl.val 6 rfl rfl (Value.int .i64 (q - 1)) _ (r_assign) ?_
            refine FWl.nil (inBlockF_norm (inBlockF_norm (thenF_norm (?_))))
            have hneq : ¬ (i < (a.length : Int) ∧ j < (b.length : Int) ∧ rd a i = rd b j) := by first | (intro h; omega)
            have hwi : ¬ (i < (a.length : Int) ∧ E a b (i + 1) j + 1 ≤ E a b i j) := by first | (intro h; omega) | (rintro ⟨h, h'⟩; have := (within_iff h3 h4 (d := ed a b) (i := i + 1) (j := j) (q := q - 1) (by omega) (by omega) (by omega) (by omega) (by omega)).2 ⟨by omega, by omega⟩; simp_all)
            have hjb := (evsAt_in (a := a) (b := b) (i := i) (j := j) (by omega) (by omega) (by omega) (by omega) (by omega) hneq hwi).1
            have hst := (evsAt_in (a := a) (b := b) (i := i) (j := j) (by omega) (by omega) (by omega) (by omega) (by omega) hneq hwi).2
            have hA443 := hRc _ _ _ _ _ hR432 ha442
            refine ⟨_, ⟨C430, i, j + 1, q - 1, (l ++ [(3, i, j)]), ⟨rfl, rfl, rfl, rfl, rfl, rfl, rfl, trivial⟩, hL1_436, hA443, ⟨by omega, by omega, by omega, by omega⟩, by omega, by omega, by rw [← hev, hst.1]; simp, rfl⟩, ?_⟩
            omega
      · have hp444 : ¬ (j < ((b.length : Nat) : Int)) := of_decide_eq_false hc231
        refine FW.exit (thenF_exit (thenF_exit (inBlockF_hit (?_))))
        refine ret_none  Try.results25 (.inr rfl) ?_
        have hA445 := hRc _ _ _ _ _ hRl ha16
        have hi : i = a.length := by omega
        have hj : j = b.length := by omega
        have hl : l = evs a b 0 0 := by rw [← hev, hi, hj, evsAt_end, List.append_nil]
        exact ⟨rfl, C9, hE_10, hl ▸ hA445⟩

end Go.Proofs.Ytlofomkhiefbmaa
