/- Walks. -/
import Derived.Test.YtlofomkhiefbmaaJH
import Derived.Test.YtlofomkhiefbmaaJT
import Derived.Test.YtlofomkhiefbmaaM13
import Derived.Test.YtlofomkhiefbmaaM15
set_option maxRecDepth 10000
set_option linter.unusedVariables false
set_option linter.unusedSimpArgs false
namespace Go.Proofs.Ytlofomkhiefbmaa
open Go.RowKit
theorem ucheck_1 {A : Option Addr} {c : Nat} {w : World} {C : Gh} (hH : Has w C) (hs : Sl kHunk C A c [(⟨1, 1, 1, 1, [(⟨2, [(⟨(⟨#[98]⟩ : ByteArray), false⟩ : Line)]⟩ : Edit), (⟨3, [(⟨(⟨#[99]⟩ : ByteArray), false⟩ : Line)]⟩ : Edit)]⟩ : Hunk)]) : Ret Try.prog 32 #[Value.slice A (([(⟨1, 1, 1, 1, [(⟨2, [(⟨(⟨#[98]⟩ : ByteArray), false⟩ : Line)]⟩ : Edit), (⟨3, [(⟨(⟨#[99]⟩ : ByteArray), false⟩ : Line)]⟩ : Edit)]⟩ : Hunk)]).length) c] w fun v w' => ∃ (C' : Gh), v = Value.int .i64 0 ∧ Ext w.heap.size w C w' C' := by
  refine Ret.of Try.func32 rfl Try.ntmps32 rfl ?_
  have hE := Ext.refl (B := w.heap.size) hH
  have bd_hs := hs.bd
  refine FW.seq_k fun K1 hK1 => ?_
  refine FW.region rfl ?_
  refine FWl.val 2 rfl rfl (Value.int .i64 0) _ (r_assign) ?_
  refine FWl.nil (hK1 _ _ ?_)
  clear hK1 K1
  refine FW.seq_k fun K2 hK2 => ?_
  refine FW.region rfl ?_
  refine FWl.val 3 rfl rfl (Value.int .i64 0) _ (r_assign) ?_
  refine FWl.nil (hK2 _ _ ?_)
  clear hK2 K2
  refine FW.seq_k fun K3 hK3 => ?_
  refine FW.seq_k fun K4 hK4 => ?_
  refine FW.region rfl ?_
  refine FWl.val 7 rfl rfl (Value.slice A (([(⟨1, 1, 1, 1, [(⟨2, [(⟨(⟨#[98]⟩ : ByteArray), false⟩ : Line)]⟩ : Edit), (⟨3, [(⟨(⟨#[99]⟩ : ByteArray), false⟩ : Line)]⟩ : Edit)]⟩ : Hunk)]).length) c) _ (r_move) ?_
  refine FWl.val 8 rfl rfl (Value.int .i64 1) _ (r_lenSl Try.underlying48 rfl) ?_
  refine FWl.val 9 rfl rfl (Value.int .i64 0) _ (r_move) ?_
  refine FWl.nil (hK4 _ _ ?_)
  clear hK4 K4
  refine FW.block ?_
  refine FW.loop_in (FWL.unroll ?_)
  refine FW.seq_k fun K5 hK5 => ?_
  refine FW.region rfl ?_
  refine FWl.val 10 rfl rfl (Value.bool true) _ (r_lss (a := 0) (b := 1) rfl rfl) ?_
  refine FWl.nil (hK5 _ _ ?_)
  clear hK5 K5
  refine FW.seq_k fun K6 hK6 => ?_
  refine FW.cond true rfl (fun _ => ?_) (fun h => nomatch h)
  refine FW.skip (hK6 _ _ ?_)
  clear hK6 K6
  refine FW.seq_k fun K7 hK7 => ?_
  refine FW.block ?_
  refine FW.seq_k fun K8 hK8 => ?_
  refine FW.region rfl ?_
  have hx2 : ([(⟨1, 1, 1, 1, [(⟨2, [(⟨(⟨#[98]⟩ : ByteArray), false⟩ : Line)]⟩ : Edit), (⟨3, [(⟨(⟨#[99]⟩ : ByteArray), false⟩ : Line)]⟩ : Edit)]⟩ : Hunk)] : List Hunk)[(0 : Int).toNat]? = some (⟨1, 1, 1, 1, [(⟨2, [(⟨(⟨#[98]⟩ : ByteArray), false⟩ : Line)]⟩ : Edit), (⟨3, [(⟨(⟨#[99]⟩ : ByteArray), false⟩ : Line)]⟩ : Edit)]⟩ : Hunk) := rfl
  obtain ⟨cs3, hr4, hg5⟩ := hs.at_ _ _ hx2
  obtain ⟨A6, c7, rfl, hs8⟩ := hr4
  refine FWl.val 11 rfl rfl (ptrAt A ((0 : Int).toNat * 5)) _ (r_indexAddr Try.underlying48 Try.sizeOf82 rfl rfl (hs.isSome (by simp)) (by omega) (by simp)) ?_
  refine FWl.val 12 rfl rfl (Value.agg #[Value.int .i64 1, Value.int .i64 1, Value.int .i64 1, Value.int .i64 1, Value.slice A6 (([(⟨2, [(⟨(⟨#[98]⟩ : ByteArray), false⟩ : Line)]⟩ : Edit), (⟨3, [(⟨(⟨#[99]⟩ : ByteArray), false⟩ : Line)]⟩ : Edit)]).length) c7]) _ (r_loadGN Try.isAgg82 Try.sizeOf82 hg5 rfl hH) ?_
  refine FWl.alloc (cs := [Value.int .i64 0, Value.int .i64 0, Value.int .i64 0, Value.int .i64 0, Value.slice none 0 0]) rfl rfl rfl Try.zeroValue82 rfl hH ?_
  intro g9 w10 st11 e12 hg13
  have hge_st11_hE := Nat.le_trans hE.size (Nat.le_of_eq hg13)
  have hE_14 := hE.step e12
  have hH15 := e12.has
  have hlt_st11 := st11.lt
  refine FWl.store (vs := [Value.int .i64 1, Value.int .i64 1, Value.int .i64 1, Value.int .i64 1, Value.slice A6 (([(⟨2, [(⟨(⟨#[98]⟩ : ByteArray), false⟩ : Line)]⟩ : Edit), (⟨3, [(⟨(⟨#[99]⟩ : ByteArray), false⟩ : Line)]⟩ : Edit)]).length) c7]) (cs' := [Value.int .i64 1, Value.int .i64 1, Value.int .i64 1, Value.int .i64 1, Value.slice A6 (([(⟨2, [(⟨(⟨#[98]⟩ : ByteArray), false⟩ : Line)]⟩ : Edit), (⟨3, [(⟨(⟨#[99]⟩ : ByteArray), false⟩ : Line)]⟩ : Edit)]).length) c7]) rfl rfl rfl Try.sizeOf82 rfl st11 hH15 rfl rfl rfl rfl rfl rfl ?_
  intro w16 m17 st11_18
  have hE_19 := hE_14.trans (m17.ext hE_14.size (by omega))
  have hH20 := m17.has
  obtain ⟨C21, m22, hcg23⟩ := st11_18.commit hH20
  have hE_24 := hE_19.trans (m22.ext hE_19.size (by omega))
  have hH25 := m22.has
  have hs8_28 := hs8.mono m22.le
  refine FWl.nil (hK8 _ _ ?_)
  clear hK8 K8
  refine FW.seq_k fun K9 hK9 => ?_
  refine FW.region rfl ?_
  refine FWl.val 13 rfl rfl (Value.agg #[Value.int .i64 1, Value.int .i64 1, Value.int .i64 1, Value.int .i64 1, Value.slice A6 (([(⟨2, [(⟨(⟨#[98]⟩ : ByteArray), false⟩ : Line)]⟩ : Edit), (⟨3, [(⟨(⟨#[99]⟩ : ByteArray), false⟩ : Line)]⟩ : Edit)]).length) c7]) _ (r_loadPN Try.isAgg82 Try.sizeOf82 hcg23 rfl hH25) ?_
  refine FWl.call 14 rfl rfl 57 #[Value.agg #[Value.int .i64 1, Value.int .i64 1, Value.int .i64 1, Value.int .i64 1, Value.slice A6 (([(⟨2, [(⟨(⟨#[98]⟩ : ByteArray), false⟩ : Line)]⟩ : Edit), (⟨3, [(⟨(⟨#[99]⟩ : ByteArray), false⟩ : Line)]⟩ : Edit)]).length) c7]] (r_call1 Try.call57 rfl rfl) (Ret.of Try.func57 rfl Try.ntmps57 rfl ?_)
  refine FW.seq_k fun K10 hK10 => ?_
  refine FW.region rfl ?_
  refine FWl.box (cs := [Value.int .i64 1, Value.int .i64 1, Value.int .i64 1, Value.int .i64 1, Value.slice A6 (([(⟨2, [(⟨(⟨#[98]⟩ : ByteArray), false⟩ : Line)]⟩ : Edit), (⟨3, [(⟨(⟨#[99]⟩ : ByteArray), false⟩ : Line)]⟩ : Edit)]).length) c7]) rfl rfl rfl rfl rfl hH25 ?_
  intro g29 w30 st31 e32 hg33
  have hge_st31_hE := Nat.le_trans hE_24.size (Nat.le_of_eq hg33)
  have hE_34 := hE_24.step e32
  have hH35 := e32.has
  have hlt_st31 := st31.lt
  obtain ⟨C36, m37, hcg38⟩ := st31.commit hH35
  have hE_39 := hE_34.trans (m37.ext hE_34.size (by omega))
  have hH40 := m37.has
  have hs8_43 := hs8_28.mono m37.le
  refine FWl.val 2 rfl rfl (Value.int .i64 0) _ (r_assign) ?_
  refine FWl.nil (hK10 _ _ ?_)
  clear hK10 K10
  refine FW.seq_k fun K11 hK11 => ?_
  refine FW.region rfl ?_
  refine FWl.val 3 rfl rfl (Value.int .i64 0) _ (r_assign) ?_
  refine FWl.nil (hK11 _ _ ?_)
  clear hK11 K11
  refine FW.seq_k fun K12 hK12 => ?_
  refine FW.seq_k fun K13 hK13 => ?_
  refine FW.region rfl ?_
  refine FWl.val 8 rfl rfl (Value.pointer (some ⟨g29, 4, none⟩)) _ (r_fieldAddrS Try.underlying82 rfl Try.sizeOf26 rfl rfl rfl rfl) ?_
  refine FWl.val 9 rfl rfl (Value.slice A6 (([(⟨2, [(⟨(⟨#[98]⟩ : ByteArray), false⟩ : Line)]⟩ : Edit), (⟨3, [(⟨(⟨#[99]⟩ : ByteArray), false⟩ : Line)]⟩ : Edit)]).length) c7) _ (r_loadP1 Try.isAgg26 hcg38 rfl rfl hH40) ?_
  refine FWl.val 10 rfl rfl (Value.int .i64 2) _ (r_lenSl Try.underlying26 rfl) ?_
  refine FWl.val 11 rfl rfl (Value.int .i64 0) _ (r_move) ?_
  refine FWl.nil (hK13 _ _ ?_)
  clear hK13 K13
  refine FW.block ?_
  refine FW.loop_in (FWL.unroll ?_)
  refine FW.seq_k fun K14 hK14 => ?_
  refine FW.region rfl ?_
  refine FWl.val 12 rfl rfl (Value.bool true) _ (r_lss (a := 0) (b := 2) rfl rfl) ?_
  refine FWl.nil (hK14 _ _ ?_)
  clear hK14 K14
  refine FW.seq_k fun K15 hK15 => ?_
  refine FW.cond true rfl (fun _ => ?_) (fun h => nomatch h)
  refine FW.skip (hK15 _ _ ?_)
  clear hK15 K15
  refine FW.seq_k fun K16 hK16 => ?_
  refine FW.block ?_
  refine FW.seq_k fun K17 hK17 => ?_
  refine FW.region rfl ?_
  have hx46 : ([(⟨2, [(⟨(⟨#[98]⟩ : ByteArray), false⟩ : Line)]⟩ : Edit), (⟨3, [(⟨(⟨#[99]⟩ : ByteArray), false⟩ : Line)]⟩ : Edit)] : List Edit)[(0 : Int).toNat]? = some (⟨2, [(⟨(⟨#[98]⟩ : ByteArray), false⟩ : Line)]⟩ : Edit) := rfl
  obtain ⟨cs47, hr48, hg49⟩ := hs8_43.at_ _ _ hx46
  obtain ⟨A50, c51, rfl, hs52⟩ := hr48
  refine FWl.val 13 rfl rfl (ptrAt A6 ((0 : Int).toNat * 2)) _ (r_indexAddr Try.underlying26 Try.sizeOf57 rfl rfl (hs8_43.isSome (by simp)) (by omega) (by simp)) ?_
  refine FWl.val 14 rfl rfl (Value.agg #[Value.int .i64 2, Value.slice A50 (([(⟨(⟨#[98]⟩ : ByteArray), false⟩ : Line)]).length) c51]) _ (r_loadGN Try.isAgg57 Try.sizeOf57 hg49 rfl hH40) ?_
  refine FWl.alloc (cs := [Value.int .i64 0, Value.slice none 0 0]) rfl rfl rfl Try.zeroValue57 rfl hH40 ?_
  intro g53 w54 st55 e56 hg57
  have hge_st55_hE := Nat.le_trans hE_39.size (Nat.le_of_eq hg57)
  have hE_58 := hE_39.step e56
  have hH59 := e56.has
  have hlt_st55 := st55.lt
  refine FWl.store (vs := [Value.int .i64 2, Value.slice A50 (([(⟨(⟨#[98]⟩ : ByteArray), false⟩ : Line)]).length) c51]) (cs' := [Value.int .i64 2, Value.slice A50 (([(⟨(⟨#[98]⟩ : ByteArray), false⟩ : Line)]).length) c51]) rfl rfl rfl Try.sizeOf57 rfl st55 hH59 rfl rfl rfl rfl rfl rfl ?_
  intro w60 m61 st55_62
  have hE_63 := hE_58.trans (m61.ext hE_58.size (by omega))
  have hH64 := m61.has
  obtain ⟨C65, m66, hcg67⟩ := st55_62.commit hH64
  have hE_68 := hE_63.trans (m66.ext hE_63.size (by omega))
  have hH69 := m66.has
  have hs8_72 := hs8_43.mono m66.le
  have hs52_76 := hs52.mono m66.le
  refine FWl.nil (hK17 _ _ ?_)
  clear hK17 K17
  refine FW.seq_k fun K18 hK18 => ?_
  refine FW.region rfl ?_
  refine FWl.val 15 rfl rfl (Value.pointer (some ⟨g53, 1, none⟩)) _ (r_fieldAddrS Try.underlying57 rfl Try.sizeOf22 rfl rfl rfl rfl) ?_
  refine FWl.val 16 rfl rfl (Value.slice A50 (([(⟨(⟨#[98]⟩ : ByteArray), false⟩ : Line)]).length) c51) _ (r_loadP1 Try.isAgg22 hcg67 rfl rfl hH69) ?_
  refine FWl.val 17 rfl rfl (Value.int .i64 1) _ (r_lenSl Try.underlying22 rfl) ?_
  refine FWl.val 18 rfl rfl (Value.int .i64 0) _ (r_move) ?_
  refine FWl.nil (hK18 _ _ ?_)
  clear hK18 K18
  refine FW.block ?_
  refine FW.loop_in (FWL.unroll ?_)
  refine FW.seq_k fun K19 hK19 => ?_
  refine FW.region rfl ?_
  refine FWl.val 19 rfl rfl (Value.bool true) _ (r_lss (a := 0) (b := 1) rfl rfl) ?_
  refine FWl.nil (hK19 _ _ ?_)
  clear hK19 K19
  refine FW.seq_k fun K20 hK20 => ?_
  refine FW.cond true rfl (fun _ => ?_) (fun h => nomatch h)
  refine FW.skip (hK20 _ _ ?_)
  clear hK20 K20
  refine FW.seq_k fun K21 hK21 => ?_
  refine FW.block ?_
  refine FW.seq_k fun K22 hK22 => ?_
  refine FW.region rfl ?_
  have hx78 : ([(⟨(⟨#[98]⟩ : ByteArray), false⟩ : Line)] : List Line)[(0 : Int).toNat]? = some (⟨(⟨#[98]⟩ : ByteArray), false⟩ : Line) := rfl
  obtain ⟨cs79, hr80, hg81⟩ := hs52_76.at_ _ _ hx78
  obtain rfl := hr80
  refine FWl.val 20 rfl rfl (ptrAt A50 ((0 : Int).toNat * 2)) _ (r_indexAddr Try.underlying22 Try.sizeOf43 rfl rfl (hs52_76.isSome (by simp)) (by omega) (by simp)) ?_
  refine FWl.val 21 rfl rfl (Value.agg #[Value.string (⟨#[98]⟩ : ByteArray), Value.bool false]) _ (r_loadGN Try.isAgg43 Try.sizeOf43 hg81 rfl hH69) ?_
  refine FWl.alloc (cs := [Value.string ByteArray.empty, Value.bool false]) rfl rfl rfl Try.zeroValue43 rfl hH69 ?_
  intro g82 w83 st84 e85 hg86
  have hge_st84_hE := Nat.le_trans hE_68.size (Nat.le_of_eq hg86)
  have hE_87 := hE_68.step e85
  have hH88 := e85.has
  have hlt_st84 := st84.lt
  refine FWl.store (vs := [Value.string (⟨#[98]⟩ : ByteArray), Value.bool false]) (cs' := [Value.string (⟨#[98]⟩ : ByteArray), Value.bool false]) rfl rfl rfl Try.sizeOf43 rfl st84 hH88 rfl rfl rfl rfl rfl rfl ?_
  intro w89 m90 st84_91
  have hE_92 := hE_87.trans (m90.ext hE_87.size (by omega))
  have hH93 := m90.has
  obtain ⟨C94, m95, hcg96⟩ := st84_91.commit hH93
  have hE_97 := hE_92.trans (m95.ext hE_92.size (by omega))
  have hH98 := m95.has
  have hs8_101 := hs8_72.mono m95.le
  refine FWl.nil (hK22 _ _ ?_)
  clear hK22 K22
  refine FW.block ?_
  refine FW.seq_k fun K23 hK23 => ?_
  refine FW.region rfl ?_
  refine FWl.val 23 rfl rfl (Value.pointer (some ⟨g82, 0, none⟩)) _ (r_fieldAddrS Try.underlying43 rfl Try.sizeOf9 rfl rfl rfl rfl) ?_
  refine FWl.val 24 rfl rfl (Value.string (⟨#[98]⟩ : ByteArray)) _ (r_loadP1 Try.isAgg9 hcg96 rfl rfl hH98) ?_
  refine FWl.val 25 rfl rfl (Value.int .i64 1) _ (r_lenStr (s := (⟨#[98]⟩ : ByteArray)) Try.underlying9 rfl) ?_
  refine FWl.val 26 rfl rfl (Value.bool false) _ (r_gtr (a := 1) (b := 200) rfl rfl) ?_
  refine FWl.val 22 rfl rfl (Value.bool false) _ (r_assign) ?_
  refine FWl.nil (hK23 _ _ ?_)
  clear hK23 K23
  refine FW.cond false rfl (fun h => nomatch h) (fun _ => ?_)
  refine FW.seq_k fun K24 hK24 => ?_
  refine FW.region rfl ?_
  refine FWl.val 28 rfl rfl (Value.pointer (some ⟨g82, 0, none⟩)) _ (r_fieldAddrS Try.underlying43 rfl Try.sizeOf9 rfl rfl rfl rfl) ?_
  refine FWl.val 29 rfl rfl (Value.string (⟨#[98]⟩ : ByteArray)) _ (r_loadP1 Try.isAgg9 hcg96 rfl rfl hH98) ?_
  refine FWl.call 30 rfl rfl 64 #[Value.string (⟨#[98]⟩ : ByteArray), Value.string ({ data := #[10] })] (r_call2 Try.call64 rfl rfl rfl) ((Contains_c hH98).mono ?_)
  rintro _ w108 ⟨rfl, e109⟩
  have hE_110 := hE_97.step e109
  have hH111 := e109.has
  refine FWl.val 31 rfl rfl (Value.bool false) _ (r_move) ?_
  refine FWl.val 32 rfl rfl (Value.pointer (some ⟨g82, 1, none⟩)) _ (r_fieldAddrS Try.underlying43 rfl Try.sizeOf4 rfl rfl rfl rfl) ?_
  refine FWl.val 33 rfl rfl (Value.bool false) _ (r_loadP1 Try.isAgg4 hcg96 rfl rfl hH111) ?_
  refine FWl.val 34 rfl rfl (Value.bool false) _ (r_move) ?_
  refine FWl.skip 35 rfl rfl ?_
  refine FWl.skip 36 rfl rfl ?_
  refine FWl.skip 37 rfl rfl ?_
  refine FWl.val 38 rfl rfl (Value.bool false) _ (r_pick (t := false) rfl) ?_
  refine FWl.val 39 rfl rfl (Value.bool false) _ (r_pick (t := false) rfl) ?_
  refine FWl.val 27 rfl rfl (Value.bool false) _ (r_assign) ?_
  refine FWl.nil (hK24 _ _ ?_)
  clear hK24 K24
  refine FW.cond false rfl (fun h => nomatch h) (fun _ => ?_)
  refine FW.skip (hK21 _ _ ?_)
  clear hK21 K21
  refine FW.region rfl ?_
  refine FWl.val 40 rfl rfl (Value.int .i64 1) _ (r_addE (a := 0) (b := 1) rfl rfl (by decide)) ?_
  refine FWl.val 18 rfl rfl (Value.int .i64 1) _ (r_move) ?_
  refine FWl.nil (thenF_round ?_)
  refine FW.seq_k fun K25 hK25 => ?_
  refine FW.region rfl ?_
  refine FWl.val 19 rfl rfl (Value.bool false) _ (r_lss (a := 1) (b := 1) rfl rfl) ?_
  refine FWl.nil (hK25 _ _ ?_)
  clear hK25 K25
  refine FW.seq_k fun K26 hK26 => ?_
  refine FW.cond false rfl (fun h => nomatch h) (fun _ => ?_)
  refine FW.exit (thenF_exit (thenF_exit (inBlockF_hit (hK16 _ _ ?_))))
  clear hK16 K16 hK26 K26
  refine FW.region rfl ?_
  refine FWl.val 41 rfl rfl (Value.int .i64 1) _ (r_addE (a := 0) (b := 1) rfl rfl (by decide)) ?_
  refine FWl.val 11 rfl rfl (Value.int .i64 1) _ (r_move) ?_
  refine FWl.nil (thenF_round ?_)
  refine FW.seq_k fun K27 hK27 => ?_
  refine FW.region rfl ?_
  refine FWl.val 12 rfl rfl (Value.bool true) _ (r_lss (a := 1) (b := 2) rfl rfl) ?_
  refine FWl.nil (hK27 _ _ ?_)
  clear hK27 K27
  refine FW.seq_k fun K28 hK28 => ?_
  refine FW.cond true rfl (fun _ => ?_) (fun h => nomatch h)
  refine FW.skip (hK28 _ _ ?_)
  clear hK28 K28
  refine FW.seq_k fun K29 hK29 => ?_
  refine FW.block ?_
  refine FW.seq_k fun K30 hK30 => ?_
  refine FW.region rfl ?_
  have hx113 : ([(⟨2, [(⟨(⟨#[98]⟩ : ByteArray), false⟩ : Line)]⟩ : Edit), (⟨3, [(⟨(⟨#[99]⟩ : ByteArray), false⟩ : Line)]⟩ : Edit)] : List Edit)[(1 : Int).toNat]? = some (⟨3, [(⟨(⟨#[99]⟩ : ByteArray), false⟩ : Line)]⟩ : Edit) := rfl
  obtain ⟨cs114, hr115, hg116⟩ := hs8_101.at_ _ _ hx113
  obtain ⟨A117, c118, rfl, hs119⟩ := hr115
  refine FWl.val 13 rfl rfl (ptrAt A6 ((1 : Int).toNat * 2)) _ (r_indexAddr Try.underlying26 Try.sizeOf57 rfl rfl (hs8_101.isSome (by simp)) (by omega) (by simp)) ?_
  refine FWl.val 14 rfl rfl (Value.agg #[Value.int .i64 3, Value.slice A117 (([(⟨(⟨#[99]⟩ : ByteArray), false⟩ : Line)]).length) c118]) _ (r_loadGN Try.isAgg57 Try.sizeOf57 hg116 rfl hH111) ?_
  refine FWl.alloc (cs := [Value.int .i64 0, Value.slice none 0 0]) rfl rfl rfl Try.zeroValue57 rfl hH111 ?_
  intro g120 w121 st122 e123 hg124
  have hge_st122_hE := Nat.le_trans hE_110.size (Nat.le_of_eq hg124)
  have hE_125 := hE_110.step e123
  have hH126 := e123.has
  have hlt_st122 := st122.lt
  refine FWl.store (vs := [Value.int .i64 3, Value.slice A117 (([(⟨(⟨#[99]⟩ : ByteArray), false⟩ : Line)]).length) c118]) (cs' := [Value.int .i64 3, Value.slice A117 (([(⟨(⟨#[99]⟩ : ByteArray), false⟩ : Line)]).length) c118]) rfl rfl rfl Try.sizeOf57 rfl st122 hH126 rfl rfl rfl rfl rfl rfl ?_
  intro w127 m128 st122_129
  have hE_130 := hE_125.trans (m128.ext hE_125.size (by omega))
  have hH131 := m128.has
  obtain ⟨C132, m133, hcg134⟩ := st122_129.commit hH131
  have hE_135 := hE_130.trans (m133.ext hE_130.size (by omega))
  have hH136 := m133.has
  have hs119_148 := hs119.mono m133.le
  refine FWl.nil (hK30 _ _ ?_)
  clear hK30 K30
  refine FW.seq_k fun K31 hK31 => ?_
  refine FW.region rfl ?_
  refine FWl.val 15 rfl rfl (Value.pointer (some ⟨g120, 1, none⟩)) _ (r_fieldAddrS Try.underlying57 rfl Try.sizeOf22 rfl rfl rfl rfl) ?_
  refine FWl.val 16 rfl rfl (Value.slice A117 (([(⟨(⟨#[99]⟩ : ByteArray), false⟩ : Line)]).length) c118) _ (r_loadP1 Try.isAgg22 hcg134 rfl rfl hH136) ?_
  refine FWl.val 17 rfl rfl (Value.int .i64 1) _ (r_lenSl Try.underlying22 rfl) ?_
  refine FWl.val 18 rfl rfl (Value.int .i64 0) _ (r_move) ?_
  refine FWl.nil (hK31 _ _ ?_)
  clear hK31 K31
  refine FW.block ?_
  refine FW.loop_in (FWL.unroll ?_)
  refine FW.seq_k fun K32 hK32 => ?_
  refine FW.region rfl ?_
  refine FWl.val 19 rfl rfl (Value.bool true) _ (r_lss (a := 0) (b := 1) rfl rfl) ?_
  refine FWl.nil (hK32 _ _ ?_)
  clear hK32 K32
  refine FW.seq_k fun K33 hK33 => ?_
  refine FW.cond true rfl (fun _ => ?_) (fun h => nomatch h)
  refine FW.skip (hK33 _ _ ?_)
  clear hK33 K33
  refine FW.seq_k fun K34 hK34 => ?_
  refine FW.block ?_
  refine FW.seq_k fun K35 hK35 => ?_
  refine FW.region rfl ?_
  have hx150 : ([(⟨(⟨#[99]⟩ : ByteArray), false⟩ : Line)] : List Line)[(0 : Int).toNat]? = some (⟨(⟨#[99]⟩ : ByteArray), false⟩ : Line) := rfl
  obtain ⟨cs151, hr152, hg153⟩ := hs119_148.at_ _ _ hx150
  obtain rfl := hr152
  refine FWl.val 20 rfl rfl (ptrAt A117 ((0 : Int).toNat * 2)) _ (r_indexAddr Try.underlying22 Try.sizeOf43 rfl rfl (hs119_148.isSome (by simp)) (by omega) (by simp)) ?_
  refine FWl.val 21 rfl rfl (Value.agg #[Value.string (⟨#[99]⟩ : ByteArray), Value.bool false]) _ (r_loadGN Try.isAgg43 Try.sizeOf43 hg153 rfl hH136) ?_
  refine FWl.alloc (cs := [Value.string ByteArray.empty, Value.bool false]) rfl rfl rfl Try.zeroValue43 rfl hH136 ?_
  intro g154 w155 st156 e157 hg158
  have hge_st156_hE := Nat.le_trans hE_135.size (Nat.le_of_eq hg158)
  have hE_159 := hE_135.step e157
  have hH160 := e157.has
  have hlt_st156 := st156.lt
  refine FWl.store (vs := [Value.string (⟨#[99]⟩ : ByteArray), Value.bool false]) (cs' := [Value.string (⟨#[99]⟩ : ByteArray), Value.bool false]) rfl rfl rfl Try.sizeOf43 rfl st156 hH160 rfl rfl rfl rfl rfl rfl ?_
  intro w161 m162 st156_163
  have hE_164 := hE_159.trans (m162.ext hE_159.size (by omega))
  have hH165 := m162.has
  obtain ⟨C166, m167, hcg168⟩ := st156_163.commit hH165
  have hE_169 := hE_164.trans (m167.ext hE_164.size (by omega))
  have hH170 := m167.has
  refine FWl.nil (hK35 _ _ ?_)
  clear hK35 K35
  refine FW.block ?_
  refine FW.seq_k fun K36 hK36 => ?_
  refine FW.region rfl ?_
  refine FWl.val 23 rfl rfl (Value.pointer (some ⟨g154, 0, none⟩)) _ (r_fieldAddrS Try.underlying43 rfl Try.sizeOf9 rfl rfl rfl rfl) ?_
  refine FWl.val 24 rfl rfl (Value.string (⟨#[99]⟩ : ByteArray)) _ (r_loadP1 Try.isAgg9 hcg168 rfl rfl hH170) ?_
  refine FWl.val 25 rfl rfl (Value.int .i64 1) _ (r_lenStr (s := (⟨#[99]⟩ : ByteArray)) Try.underlying9 rfl) ?_
  refine FWl.val 26 rfl rfl (Value.bool false) _ (r_gtr (a := 1) (b := 200) rfl rfl) ?_
  refine FWl.val 22 rfl rfl (Value.bool false) _ (r_assign) ?_
  refine FWl.nil (hK36 _ _ ?_)
  clear hK36 K36
  refine FW.cond false rfl (fun h => nomatch h) (fun _ => ?_)
  refine FW.seq_k fun K37 hK37 => ?_
  refine FW.region rfl ?_
  refine FWl.val 28 rfl rfl (Value.pointer (some ⟨g154, 0, none⟩)) _ (r_fieldAddrS Try.underlying43 rfl Try.sizeOf9 rfl rfl rfl rfl) ?_
  refine FWl.val 29 rfl rfl (Value.string (⟨#[99]⟩ : ByteArray)) _ (r_loadP1 Try.isAgg9 hcg168 rfl rfl hH170) ?_
  refine FWl.call 30 rfl rfl 64 #[Value.string (⟨#[99]⟩ : ByteArray), Value.string ({ data := #[10] })] (r_call2 Try.call64 rfl rfl rfl) ((Contains_c hH170).mono ?_)
  rintro _ w185 ⟨rfl, e186⟩
  have hE_187 := hE_169.step e186
  have hH188 := e186.has
  refine FWl.val 31 rfl rfl (Value.bool false) _ (r_move) ?_
  refine FWl.val 32 rfl rfl (Value.pointer (some ⟨g154, 1, none⟩)) _ (r_fieldAddrS Try.underlying43 rfl Try.sizeOf4 rfl rfl rfl rfl) ?_
  refine FWl.val 33 rfl rfl (Value.bool false) _ (r_loadP1 Try.isAgg4 hcg168 rfl rfl hH188) ?_
  refine FWl.val 34 rfl rfl (Value.bool false) _ (r_move) ?_
  refine FWl.skip 35 rfl rfl ?_
  refine FWl.skip 36 rfl rfl ?_
  refine FWl.skip 37 rfl rfl ?_
  refine FWl.val 38 rfl rfl (Value.bool false) _ (r_pick (t := false) rfl) ?_
  refine FWl.val 39 rfl rfl (Value.bool false) _ (r_pick (t := false) rfl) ?_
  refine FWl.val 27 rfl rfl (Value.bool false) _ (r_assign) ?_
  refine FWl.nil (hK37 _ _ ?_)
  clear hK37 K37
  refine FW.cond false rfl (fun h => nomatch h) (fun _ => ?_)
  refine FW.skip (hK34 _ _ ?_)
  clear hK34 K34
  refine FW.region rfl ?_
  refine FWl.val 40 rfl rfl (Value.int .i64 1) _ (r_addE (a := 0) (b := 1) rfl rfl (by decide)) ?_
  refine FWl.val 18 rfl rfl (Value.int .i64 1) _ (r_move) ?_
  refine FWl.nil (thenF_round ?_)
  refine FW.seq_k fun K38 hK38 => ?_
  refine FW.region rfl ?_
  refine FWl.val 19 rfl rfl (Value.bool false) _ (r_lss (a := 1) (b := 1) rfl rfl) ?_
  refine FWl.nil (hK38 _ _ ?_)
  clear hK38 K38
  refine FW.seq_k fun K39 hK39 => ?_
  refine FW.cond false rfl (fun h => nomatch h) (fun _ => ?_)
  refine FW.exit (thenF_exit (thenF_exit (inBlockF_hit (hK29 _ _ ?_))))
  clear hK29 K29 hK39 K39
  refine FW.region rfl ?_
  refine FWl.val 41 rfl rfl (Value.int .i64 2) _ (r_addE (a := 1) (b := 1) rfl rfl (by decide)) ?_
  refine FWl.val 11 rfl rfl (Value.int .i64 2) _ (r_move) ?_
  refine FWl.nil (thenF_round ?_)
  refine FW.seq_k fun K40 hK40 => ?_
  refine FW.region rfl ?_
  refine FWl.val 12 rfl rfl (Value.bool false) _ (r_lss (a := 2) (b := 2) rfl rfl) ?_
  refine FWl.nil (hK40 _ _ ?_)
  clear hK40 K40
  refine FW.seq_k fun K41 hK41 => ?_
  refine FW.cond false rfl (fun h => nomatch h) (fun _ => ?_)
  refine FW.exit (thenF_exit (thenF_exit (inBlockF_hit (hK12 _ _ ?_))))
  clear hK12 K12 hK41 K41
  refine FW.seq_k fun K42 hK42 => ?_
  refine FW.region rfl ?_
  refine FWl.val 42 rfl rfl (Value.int .i64 0) _ (r_move) ?_
  refine FWl.val 2 rfl rfl (Value.int .i64 0) _ (r_assign) ?_
  refine FWl.nil (hK42 _ _ ?_)
  clear hK42 K42
  refine FW.ret (?_)
  refine ret_tmp (v := Value.int .i64 0) Try.results57 (.inl rfl) rfl ?_
  refine FWl.val 6 rfl rfl (Value.int .i64 0) _ (r_assign) ?_
  refine FWl.nil (hK9 _ _ ?_)
  clear hK9 K9
  refine FW.block ?_
  refine FW.seq_k fun K43 hK43 => ?_
  refine FW.region rfl ?_
  refine FWl.val 16 rfl rfl (Value.int .i64 0) _ (r_move) ?_
  refine FWl.val 17 rfl rfl (Value.bool false) _ (r_eql (a := 0) (b := 4) rfl rfl) ?_
  refine FWl.val 15 rfl rfl (Value.bool false) _ (r_assign) ?_
  refine FWl.nil (hK43 _ _ ?_)
  clear hK43 K43
  refine FW.cond false rfl (fun h => nomatch h) (fun _ => ?_)
  refine FW.seq_k fun K44 hK44 => ?_
  refine FW.region rfl ?_
  refine FWl.val 20 rfl rfl (Value.int .i64 0) _ (r_move) ?_
  refine FWl.val 21 rfl rfl (Value.bool false) _ (r_neq (a := 0) (b := 0) rfl rfl) ?_
  refine FWl.val 19 rfl rfl (Value.bool false) _ (r_assign) ?_
  refine FWl.nil (hK44 _ _ ?_)
  clear hK44 K44
  refine FW.cond false rfl (fun h => nomatch h) (fun _ => ?_)
  refine FW.skip (hK7 _ _ ?_)
  clear hK7 K7
  refine FW.region rfl ?_
  refine FWl.val 23 rfl rfl (Value.int .i64 1) _ (r_addE (a := 0) (b := 1) rfl rfl (by decide)) ?_
  refine FWl.val 9 rfl rfl (Value.int .i64 1) _ (r_move) ?_
  refine FWl.nil (thenF_round ?_)
  refine FW.seq_k fun K45 hK45 => ?_
  refine FW.region rfl ?_
  refine FWl.val 10 rfl rfl (Value.bool false) _ (r_lss (a := 1) (b := 1) rfl rfl) ?_
  refine FWl.nil (hK45 _ _ ?_)
  clear hK45 K45
  refine FW.seq_k fun K46 hK46 => ?_
  refine FW.cond false rfl (fun h => nomatch h) (fun _ => ?_)
  refine FW.exit (thenF_exit (thenF_exit (inBlockF_hit (hK3 _ _ ?_))))
  clear hK3 K3 hK46 K46
  refine FW.seq_k fun K47 hK47 => ?_
  refine FW.region rfl ?_
  refine FWl.val 24 rfl rfl (Value.int .i64 0) _ (r_move) ?_
  refine FWl.val 2 rfl rfl (Value.int .i64 0) _ (r_assign) ?_
  refine FWl.nil (hK47 _ _ ?_)
  clear hK47 K47
  refine FW.ret (?_)
  refine ret_tmp (v := Value.int .i64 0) Try.results32 (.inl rfl) rfl ?_
  exact ⟨C166, rfl, hE_187⟩

theorem Print_1 {A : Option Addr} {c : Nat} {w : World} {C : Gh} (hH : Has w C) (hs : Sl kHunk C A c [(⟨1, 1, 1, 1, [(⟨2, [(⟨(⟨#[98]⟩ : ByteArray), false⟩ : Line)]⟩ : Edit), (⟨3, [(⟨(⟨#[99]⟩ : ByteArray), false⟩ : Line)]⟩ : Edit)]⟩ : Hunk)]) : Ret Try.prog 17 #[Value.slice A (([(⟨1, 1, 1, 1, [(⟨2, [(⟨(⟨#[98]⟩ : ByteArray), false⟩ : Line)]⟩ : Edit), (⟨3, [(⟨(⟨#[99]⟩ : ByteArray), false⟩ : Line)]⟩ : Edit)]⟩ : Hunk)]).length) c] w fun v w' => ∃ (C' : Gh) (A' : Option Addr) (c' : Nat), v = Value.tuple #[Value.slice A' (([64, 64, 32, 45, 50, 44, 49, 32, 43, 50, 44, 49, 32, 64, 64, 10, 45, 98, 10, 43, 99, 10]).length) c', Value.int .i64 0] ∧ Ext w.heap.size w C w' C' ∧ Sl (kInt .u8) C' A' c' [64, 64, 32, 45, 50, 44, 49, 32, 43, 50, 44, 49, 32, 64, 64, 10, 45, 98, 10, 43, 99, 10] := by
  refine Ret.of Try.func17 rfl Try.ntmps17 rfl ?_
  have hE := Ext.refl (B := w.heap.size) hH
  have bd_hs := hs.bd
  refine FW.seq_k fun K1 hK1 => ?_
  refine FW.region rfl ?_
  refine FWl.val 2 rfl rfl (Value.slice none 0 0) _ (r_assign) ?_
  refine FWl.val 3 rfl rfl (Value.int .i64 0) _ (r_assign) ?_
  refine FWl.nil (hK1 _ _ ?_)
  clear hK1 K1
  refine FW.seq_k fun K2 hK2 => ?_
  refine FW.seq_k fun K3 hK3 => ?_
  refine FW.region rfl ?_
  refine FWl.val 14 rfl rfl (Value.slice A (([(⟨1, 1, 1, 1, [(⟨2, [(⟨(⟨#[98]⟩ : ByteArray), false⟩ : Line)]⟩ : Edit), (⟨3, [(⟨(⟨#[99]⟩ : ByteArray), false⟩ : Line)]⟩ : Edit)]⟩ : Hunk)]).length) c) _ (r_move) ?_
  refine FWl.call 15 rfl rfl 31 #[Value.slice A (([(⟨1, 1, 1, 1, [(⟨2, [(⟨(⟨#[98]⟩ : ByteArray), false⟩ : Line)]⟩ : Edit), (⟨3, [(⟨(⟨#[99]⟩ : ByteArray), false⟩ : Line)]⟩ : Edit)]⟩ : Hunk)]).length) c] (r_call1 Try.call31 rfl rfl) ((Check_1 hH hs).mono ?_)
  rintro _ w1 ⟨C2, rfl, e3⟩
  have hE_4 := hE.step e3
  have hs_5 := hs.mono e3.le
  have hH6 := e3.has
  refine FWl.val 4 rfl rfl (Value.int .i64 0) _ (r_assign) ?_
  refine FWl.nil (hK3 _ _ ?_)
  clear hK3 K3
  refine FW.seq_k fun K4 hK4 => ?_
  refine FW.region rfl ?_
  refine FWl.val 16 rfl rfl (Value.int .i64 0) _ (r_move) ?_
  refine FWl.val 17 rfl rfl (Value.bool false) _ (r_neq (a := 0) (b := 0) rfl rfl) ?_
  refine FWl.nil (hK4 _ _ ?_)
  clear hK4 K4
  refine FW.cond false rfl (fun h => nomatch h) (fun _ => ?_)
  refine FW.skip (hK2 _ _ ?_)
  clear hK2 K2
  refine FW.seq_k fun K5 hK5 => ?_
  refine FW.seq_k fun K6 hK6 => ?_
  refine FW.region rfl ?_
  refine FWl.val 19 rfl rfl (Value.slice A (([(⟨1, 1, 1, 1, [(⟨2, [(⟨(⟨#[98]⟩ : ByteArray), false⟩ : Line)]⟩ : Edit), (⟨3, [(⟨(⟨#[99]⟩ : ByteArray), false⟩ : Line)]⟩ : Edit)]⟩ : Hunk)]).length) c) _ (r_move) ?_
  refine FWl.call 20 rfl rfl 32 #[Value.slice A (([(⟨1, 1, 1, 1, [(⟨2, [(⟨(⟨#[98]⟩ : ByteArray), false⟩ : Line)]⟩ : Edit), (⟨3, [(⟨(⟨#[99]⟩ : ByteArray), false⟩ : Line)]⟩ : Edit)]⟩ : Hunk)]).length) c] (r_call1 Try.call32 rfl rfl) ((ucheck_1 hH6 hs_5).mono ?_)
  rintro _ w7 ⟨C8, rfl, e9⟩
  have hE_10 := hE_4.step e9
  have hs_11 := hs_5.mono e9.le
  have hH12 := e9.has
  refine FWl.val 5 rfl rfl (Value.int .i64 0) _ (r_assign) ?_
  refine FWl.nil (hK6 _ _ ?_)
  clear hK6 K6
  refine FW.seq_k fun K7 hK7 => ?_
  refine FW.region rfl ?_
  refine FWl.val 21 rfl rfl (Value.int .i64 0) _ (r_move) ?_
  refine FWl.val 22 rfl rfl (Value.bool false) _ (r_neq (a := 0) (b := 0) rfl rfl) ?_
  refine FWl.nil (hK7 _ _ ?_)
  clear hK7 K7
  refine FW.cond false rfl (fun h => nomatch h) (fun _ => ?_)
  refine FW.skip (hK5 _ _ ?_)
  clear hK5 K5
  refine FW.seq_k fun K8 hK8 => ?_
  refine FW.region rfl ?_
  have hm13 : MRow w.heap.size 5 1 w7 C8 none 0 [] := MRow.nil
  refine FWl.alloc (cs := [Value.pointer none, Value.slice none 0 0]) rfl rfl rfl Try.zeroValue80 rfl hH12 ?_
  intro g14 w15 st16 e17 hg18
  have hge_st16_hE := Nat.le_trans hE_10.size (Nat.le_of_eq hg18)
  have hE_19 := hE_10.step e17
  have hm13_20 := hm13.call e17
  have hH21 := e17.has
  have hlt_st16 := st16.lt
  refine FWl.nil (hK8 _ _ ?_)
  clear hK8 K8
  refine FW.seq_k fun K9 hK9 => ?_
  refine FW.seq_k fun K10 hK10 => ?_
  refine FW.region rfl ?_
  refine FWl.val 24 rfl rfl (Value.slice A (([(⟨1, 1, 1, 1, [(⟨2, [(⟨(⟨#[98]⟩ : ByteArray), false⟩ : Line)]⟩ : Edit), (⟨3, [(⟨(⟨#[99]⟩ : ByteArray), false⟩ : Line)]⟩ : Edit)]⟩ : Hunk)]).length) c) _ (r_move) ?_
  refine FWl.val 25 rfl rfl (Value.int .i64 1) _ (r_lenSl Try.underlying48 rfl) ?_
  refine FWl.val 26 rfl rfl (Value.int .i64 0) _ (r_move) ?_
  refine FWl.nil (hK10 _ _ ?_)
  clear hK10 K10
  refine FW.block ?_
  refine FW.loop_in (FWL.unroll ?_)
  refine FW.seq_k fun K11 hK11 => ?_
  refine FW.region rfl ?_
  refine FWl.val 27 rfl rfl (Value.bool true) _ (r_lss (a := 0) (b := 1) rfl rfl) ?_
  refine FWl.nil (hK11 _ _ ?_)
  clear hK11 K11
  refine FW.seq_k fun K12 hK12 => ?_
  refine FW.cond true rfl (fun _ => ?_) (fun h => nomatch h)
  refine FW.skip (hK12 _ _ ?_)
  clear hK12 K12
  refine FW.seq_k fun K13 hK13 => ?_
  refine FW.block ?_
  refine FW.seq_k fun K14 hK14 => ?_
  refine FW.region rfl ?_
  have hx23 : ([(⟨1, 1, 1, 1, [(⟨2, [(⟨(⟨#[98]⟩ : ByteArray), false⟩ : Line)]⟩ : Edit), (⟨3, [(⟨(⟨#[99]⟩ : ByteArray), false⟩ : Line)]⟩ : Edit)]⟩ : Hunk)] : List Hunk)[(0 : Int).toNat]? = some (⟨1, 1, 1, 1, [(⟨2, [(⟨(⟨#[98]⟩ : ByteArray), false⟩ : Line)]⟩ : Edit), (⟨3, [(⟨(⟨#[99]⟩ : ByteArray), false⟩ : Line)]⟩ : Edit)]⟩ : Hunk) := rfl
  obtain ⟨cs24, hr25, hg26⟩ := hs_11.at_ _ _ hx23
  obtain ⟨A27, c28, rfl, hs29⟩ := hr25
  refine FWl.val 28 rfl rfl (ptrAt A ((0 : Int).toNat * 5)) _ (r_indexAddr Try.underlying48 Try.sizeOf82 rfl rfl (hs_11.isSome (by simp)) (by omega) (by simp)) ?_
  refine FWl.val 29 rfl rfl (Value.agg #[Value.int .i64 1, Value.int .i64 1, Value.int .i64 1, Value.int .i64 1, Value.slice A27 (([(⟨2, [(⟨(⟨#[98]⟩ : ByteArray), false⟩ : Line)]⟩ : Edit), (⟨3, [(⟨(⟨#[99]⟩ : ByteArray), false⟩ : Line)]⟩ : Edit)]).length) c28]) _ (r_loadGN Try.isAgg82 Try.sizeOf82 hg26 rfl hH21) ?_
  refine FWl.alloc (cs := [Value.int .i64 0, Value.int .i64 0, Value.int .i64 0, Value.int .i64 0, Value.slice none 0 0]) rfl rfl rfl Try.zeroValue82 rfl hH21 ?_
  intro g30 w31 st32 e33 hg34
  have hge_st32_hE := Nat.le_trans hE_19.size (Nat.le_of_eq hg34)
  have hE_35 := hE_19.step e33
  have st16_36 := st16.call e33
  have hm13_37 := hm13_20.call e33
  have hH38 := e33.has
  have hlt_st32 := st32.lt
  refine FWl.store (vs := [Value.int .i64 1, Value.int .i64 1, Value.int .i64 1, Value.int .i64 1, Value.slice A27 (([(⟨2, [(⟨(⟨#[98]⟩ : ByteArray), false⟩ : Line)]⟩ : Edit), (⟨3, [(⟨(⟨#[99]⟩ : ByteArray), false⟩ : Line)]⟩ : Edit)]).length) c28]) (cs' := [Value.int .i64 1, Value.int .i64 1, Value.int .i64 1, Value.int .i64 1, Value.slice A27 (([(⟨2, [(⟨(⟨#[98]⟩ : ByteArray), false⟩ : Line)]⟩ : Edit), (⟨3, [(⟨(⟨#[99]⟩ : ByteArray), false⟩ : Line)]⟩ : Edit)]).length) c28]) rfl rfl rfl Try.sizeOf82 rfl st32 hH38 rfl rfl rfl rfl rfl rfl ?_
  intro w39 m40 st32_41
  have hE_42 := hE_35.trans (m40.ext hE_35.size (by omega))
  have st16_43 := st16_36.other m40 (st16_36.ne_type st32 (by decide))
  have hm13_44 := hm13_37.other m40 st32 (by decide)
  have hH45 := m40.has
  obtain ⟨C46, m47, hcg48⟩ := st32_41.commit hH45
  have hE_49 := hE_42.trans (m47.ext hE_42.size (by omega))
  have st16_50 := st16_43.other m47 (st16_43.ne_type st32_41 (by decide))
  have hm13_51 := hm13_44.other m47 st32_41 (by decide)
  have hH52 := m47.has
  have hs29_55 := hs29.mono m47.le
  refine FWl.nil (hK14 _ _ ?_)
  clear hK14 K14
  refine FW.seq_k fun K15 hK15 => ?_
  refine FW.regionDraw mixed (SS C46 (fun _ => False) w39.drew) [] [(0, true), (1, true), (2, true), (3, true), (7, true), (8, true), (9, true), (10, true), (4, false), (5, true), (6, true), (11, false), (12, false), (13, false), (14, false)] rfl (by kernel_rfl) ?_
  have e57 : Ext w39.heap.size w39 C46 w39.drew C46 := (Ext.refl hH52).drew
  generalize w39.drew = w56 at *
  have hE_58 := hE_49.step e57
  have st16_59 := st16_50.call e57
  have hm13_60 := hm13_51.call e57
  have hH61 := e57.has
  have hS62 : SS C46 (fun _ => False) w56 w56 := SS.refl hH61
  have hle63 := Gle.refl C46
  refine FWs.take rfl 30 rfl rfl (Value.pointer (some ⟨g30, 0, none⟩)) hS62 (fun _ _ => r_fieldAddrS Try.underlying82 rfl Try.sizeOf3 rfl rfl rfl rfl) ?_
  refine FWs.take rfl 31 rfl rfl (Value.int .i64 1) hS62 (fun _ hS' => r_loadP1 Try.isAgg3 hcg48 rfl rfl hS'.has) ?_
  refine FWs.take rfl 32 rfl rfl (Value.pointer (some ⟨g30, 1, none⟩)) hS62 (fun _ _ => r_fieldAddrS Try.underlying82 rfl Try.sizeOf3 rfl rfl rfl rfl) ?_
  refine FWs.take rfl 33 rfl rfl (Value.int .i64 1) hS62 (fun _ hS' => r_loadP1 Try.isAgg3 hcg48 rfl rfl hS'.has) ?_
  refine FWs.take rfl 37 rfl rfl (Value.pointer (some ⟨g30, 2, none⟩)) hS62 (fun _ _ => r_fieldAddrS Try.underlying82 rfl Try.sizeOf3 rfl rfl rfl rfl) ?_
  refine FWs.take rfl 38 rfl rfl (Value.int .i64 1) hS62 (fun _ hS' => r_loadP1 Try.isAgg3 hcg48 rfl rfl hS'.has) ?_
  refine FWs.take rfl 39 rfl rfl (Value.pointer (some ⟨g30, 3, none⟩)) hS62 (fun _ _ => r_fieldAddrS Try.underlying82 rfl Try.sizeOf3 rfl rfl rfl rfl) ?_
  refine FWs.take rfl 40 rfl rfl (Value.int .i64 1) hS62 (fun _ hS' => r_loadP1 Try.isAgg3 hcg48 rfl rfl hS'.has) ?_
  refine FWs.call rfl 34 rfl rfl 34 #[Value.int .i64 1, Value.int .i64 1] (r_call2 Try.call34 rfl rfl rfl) ((span_1 hH61).mono ?_)
  rintro _ w64 ⟨C65, rfl, e66⟩
  have hE_67 := hE_58.step e66
  have st16_68 := st16_59.call e66
  have hm13_69 := hm13_60.call e66
  have hle70 := hle63.trans e66.le
  have hs29_73 := hs29_55.mono e66.le
  have hcg48_74 := hcg48.mono e66.le
  have hH75 := e66.has
  have hS76 := hS62.step e66
  refine ⟨(.inr hS76), ?_⟩
  refine FWs.take rfl 35 rfl rfl (Value.string (⟨#[64, 64, 32, 45, 50, 44, 49]⟩ : ByteArray)) hS76 (fun _ _ => r_concatE (s := ({ data := #[64, 64, 32, 45] })) (s' := (⟨#[50, 44, 49]⟩ : ByteArray)) rfl rfl (by decide) (by kernel_rfl)) ?_
  refine FWs.take rfl 36 rfl rfl (Value.string (⟨#[64, 64, 32, 45, 50, 44, 49, 32, 43]⟩ : ByteArray)) hS76 (fun _ _ => r_concatE (s := (⟨#[64, 64, 32, 45, 50, 44, 49]⟩ : ByteArray)) (s' := ({ data := #[32, 43] })) rfl rfl (by decide) (by kernel_rfl)) ?_
  refine FWs.call rfl 41 rfl rfl 34 #[Value.int .i64 1, Value.int .i64 1] (r_call2 Try.call34 rfl rfl rfl) ((span_1 hH75).mono ?_)
  rintro _ w77 ⟨C78, rfl, e79⟩
  have hE_80 := hE_67.step e79
  have st16_81 := st16_68.call e79
  have hm13_82 := hm13_69.call e79
  have hle83 := hle70.trans e79.le
  have hs29_86 := hs29_73.mono e79.le
  have hcg48_87 := hcg48_74.mono e79.le
  have hH88 := e79.has
  have hS89 := hS76.step e79
  refine ⟨(.inr hS89), ?_⟩
  refine FWs.val rfl 42 rfl rfl (Value.string (⟨#[64, 64, 32, 45, 50, 44, 49, 32, 43, 50, 44, 49]⟩ : ByteArray)) _ (r_concatE (s := (⟨#[64, 64, 32, 45, 50, 44, 49, 32, 43]⟩ : ByteArray)) (s' := (⟨#[50, 44, 49]⟩ : ByteArray)) rfl rfl (by decide) (by kernel_rfl)) (.inr hS89) ?_
  refine FWs.val rfl 43 rfl rfl (Value.string (⟨#[64, 64, 32, 45, 50, 44, 49, 32, 43, 50, 44, 49, 32, 64, 64, 10]⟩ : ByteArray)) _ (r_concatE (s := (⟨#[64, 64, 32, 45, 50, 44, 49, 32, 43, 50, 44, 49]⟩ : ByteArray)) (s' := ({ data := #[32, 64, 64, 10] })) rfl rfl (by decide) (by kernel_rfl)) (.inr hS89) ?_
  refine FWs.call rfl 44 rfl rfl 33 #[Value.pointer (some ⟨g14, 0, none⟩), Value.string (⟨#[64, 64, 32, 45, 50, 44, 49, 32, 43, 50, 44, 49, 32, 64, 64, 10]⟩ : ByteArray)] (r_call2 Try.call33 rfl rfl rfl) ((WriteString_0 hH88 (by omega) st16_81 hm13_82 (by decide)).mono ?_)
  rintro _ w95 ⟨rfl, A90, c91, e92, st93, hm94⟩
  have hE_96 := hE_80.trans e92
  have hle97 := hle83.trans e92.le
  have hs29_100 := hs29_86.mono e92.le
  have hcg48_101 := hcg48_87.mono e92.le
  have hH102 := e92.has
  have hS103 : SS _ (fun _ => False) _ _ := ⟨fun b o v q => hH102 b o v (hle97 b o v q), Nat.le_trans hS89.size e92.size, fun _ _ h => h.elim⟩
  refine ⟨(.inr hS103), ?_⟩
  refine FWs.nil (hK15 _ _ ?_)
  clear hK15 K15
  refine FW.seq_k fun K16 hK16 => ?_
  refine FW.region rfl ?_
  refine FWl.val 45 rfl rfl (Value.pointer (some ⟨g30, 4, none⟩)) _ (r_fieldAddrS Try.underlying82 rfl Try.sizeOf26 rfl rfl rfl rfl) ?_
  refine FWl.val 46 rfl rfl (Value.slice A27 (([(⟨2, [(⟨(⟨#[98]⟩ : ByteArray), false⟩ : Line)]⟩ : Edit), (⟨3, [(⟨(⟨#[99]⟩ : ByteArray), false⟩ : Line)]⟩ : Edit)]).length) c28) _ (r_loadP1 Try.isAgg26 hcg48_101 rfl rfl hH102) ?_
  refine FWl.val 47 rfl rfl (Value.int .i64 2) _ (r_lenSl Try.underlying26 rfl) ?_
  refine FWl.val 48 rfl rfl (Value.int .i64 0) _ (r_move) ?_
  refine FWl.nil (hK16 _ _ ?_)
  clear hK16 K16
  refine FW.block ?_
  refine FW.loop_in (FWL.unroll ?_)
  refine FW.seq_k fun K17 hK17 => ?_
  refine FW.region rfl ?_
  refine FWl.val 49 rfl rfl (Value.bool true) _ (r_lss (a := 0) (b := 2) rfl rfl) ?_
  refine FWl.nil (hK17 _ _ ?_)
  clear hK17 K17
  refine FW.seq_k fun K18 hK18 => ?_
  refine FW.cond true rfl (fun _ => ?_) (fun h => nomatch h)
  refine FW.skip (hK18 _ _ ?_)
  clear hK18 K18
  refine FW.seq_k fun K19 hK19 => ?_
  refine FW.block ?_
  refine FW.seq_k fun K20 hK20 => ?_
  refine FW.region rfl ?_
  have hx105 : ([(⟨2, [(⟨(⟨#[98]⟩ : ByteArray), false⟩ : Line)]⟩ : Edit), (⟨3, [(⟨(⟨#[99]⟩ : ByteArray), false⟩ : Line)]⟩ : Edit)] : List Edit)[(0 : Int).toNat]? = some (⟨2, [(⟨(⟨#[98]⟩ : ByteArray), false⟩ : Line)]⟩ : Edit) := rfl
  obtain ⟨cs106, hr107, hg108⟩ := hs29_100.at_ _ _ hx105
  obtain ⟨A109, c110, rfl, hs111⟩ := hr107
  refine FWl.val 50 rfl rfl (ptrAt A27 ((0 : Int).toNat * 2)) _ (r_indexAddr Try.underlying26 Try.sizeOf57 rfl rfl (hs29_100.isSome (by simp)) (by omega) (by simp)) ?_
  refine FWl.val 51 rfl rfl (Value.agg #[Value.int .i64 2, Value.slice A109 (([(⟨(⟨#[98]⟩ : ByteArray), false⟩ : Line)]).length) c110]) _ (r_loadGN Try.isAgg57 Try.sizeOf57 hg108 rfl hH102) ?_
  refine FWl.alloc (cs := [Value.int .i64 0, Value.slice none 0 0]) rfl rfl rfl Try.zeroValue57 rfl hH102 ?_
  intro g112 w113 st114 e115 hg116
  have hge_st114_hE := Nat.le_trans hE_96.size (Nat.le_of_eq hg116)
  have hE_117 := hE_96.step e115
  have st93_118 := st93.call e115
  have hm94_119 := hm94.call e115
  have hH120 := e115.has
  have hlt_st114 := st114.lt
  refine FWl.store (vs := [Value.int .i64 2, Value.slice A109 (([(⟨(⟨#[98]⟩ : ByteArray), false⟩ : Line)]).length) c110]) (cs' := [Value.int .i64 2, Value.slice A109 (([(⟨(⟨#[98]⟩ : ByteArray), false⟩ : Line)]).length) c110]) rfl rfl rfl Try.sizeOf57 rfl st114 hH120 rfl rfl rfl rfl rfl rfl ?_
  intro w121 m122 st114_123
  have hE_124 := hE_117.trans (m122.ext hE_117.size (by omega))
  have st93_125 := st93_118.other m122 (st93_118.ne_type st114 (by decide))
  have hm94_126 := hm94_119.other m122 st114 (by decide)
  have hH127 := m122.has
  obtain ⟨C128, m129, hcg130⟩ := st114_123.commit hH127
  have hE_131 := hE_124.trans (m129.ext hE_124.size (by omega))
  have st93_132 := st93_125.other m129 (st93_125.ne_type st114_123 (by decide))
  have hm94_133 := hm94_126.other m129 st114_123 (by decide)
  have hH134 := m129.has
  have hs29_137 := hs29_100.mono m129.le
  have hs111_140 := hs111.mono m129.le
  refine FWl.nil (hK20 _ _ ?_)
  clear hK20 K20
  refine FW.seq_k fun K21 hK21 => ?_
  refine FW.region rfl ?_
  refine FWl.val 52 rfl rfl (Value.pointer (some ⟨g112, 0, none⟩)) _ (r_fieldAddrS Try.underlying57 rfl Try.sizeOf55 rfl rfl rfl rfl) ?_
  refine FWl.val 53 rfl rfl (Value.int .i64 2) _ (r_loadP1 Try.isAgg55 hcg130 rfl rfl hH134) ?_
  refine FWl.val 54 rfl rfl (Value.int .i64 1) _ (r_subE (a := 2) (b := 1) rfl rfl (by decide)) ?_
  refine FWl.val 55 rfl rfl (Value.pointer (some ⟨g112, 0, none⟩)) _ (r_fieldAddrS Try.underlying57 rfl Try.sizeOf55 rfl rfl rfl rfl) ?_
  refine FWl.val 56 rfl rfl (Value.int .i64 2) _ (r_loadP1 Try.isAgg55 hcg130 rfl rfl hH134) ?_
  refine FWl.val 57 rfl rfl (Value.int .i64 1) _ (r_subE (a := 2) (b := 1) rfl rfl (by decide)) ?_
  refine FWl.val 58 rfl rfl (Value.int .i64 2) _ (r_addE (a := 1) (b := 1) rfl rfl (by decide)) ?_
  refine FWl.val 59 rfl rfl (Value.string (⟨#[45]⟩ : ByteArray)) _ (r_sliceStrE (s := (⟨#[32, 45, 43]⟩ : ByteArray)) (l := 1) (h := 2) Try.underlying9 rfl rfl rfl (by decide) (by decide) (by decide) (by kernel_rfl)) ?_
  refine FWl.val 11 rfl rfl (Value.string (⟨#[45]⟩ : ByteArray)) _ (r_assign) ?_
  refine FWl.nil (hK21 _ _ ?_)
  clear hK21 K21
  refine FW.seq_k fun K22 hK22 => ?_
  refine FW.region rfl ?_
  refine FWl.val 60 rfl rfl (Value.pointer (some ⟨g112, 1, none⟩)) _ (r_fieldAddrS Try.underlying57 rfl Try.sizeOf22 rfl rfl rfl rfl) ?_
  refine FWl.val 61 rfl rfl (Value.slice A109 (([(⟨(⟨#[98]⟩ : ByteArray), false⟩ : Line)]).length) c110) _ (r_loadP1 Try.isAgg22 hcg130 rfl rfl hH134) ?_
  refine FWl.val 62 rfl rfl (Value.int .i64 1) _ (r_lenSl Try.underlying22 rfl) ?_
  refine FWl.val 63 rfl rfl (Value.int .i64 0) _ (r_move) ?_
  refine FWl.nil (hK22 _ _ ?_)
  clear hK22 K22
  refine FW.block ?_
  refine FW.loop_in (FWL.unroll ?_)
  refine FW.seq_k fun K23 hK23 => ?_
  refine FW.region rfl ?_
  refine FWl.val 64 rfl rfl (Value.bool true) _ (r_lss (a := 0) (b := 1) rfl rfl) ?_
  refine FWl.nil (hK23 _ _ ?_)
  clear hK23 K23
  refine FW.seq_k fun K24 hK24 => ?_
  refine FW.cond true rfl (fun _ => ?_) (fun h => nomatch h)
  refine FW.skip (hK24 _ _ ?_)
  clear hK24 K24
  refine FW.seq_k fun K25 hK25 => ?_
  refine FW.block ?_
  refine FW.seq_k fun K26 hK26 => ?_
  refine FW.region rfl ?_
  have hx142 : ([(⟨(⟨#[98]⟩ : ByteArray), false⟩ : Line)] : List Line)[(0 : Int).toNat]? = some (⟨(⟨#[98]⟩ : ByteArray), false⟩ : Line) := rfl
  obtain ⟨cs143, hr144, hg145⟩ := hs111_140.at_ _ _ hx142
  obtain rfl := hr144
  refine FWl.val 65 rfl rfl (ptrAt A109 ((0 : Int).toNat * 2)) _ (r_indexAddr Try.underlying22 Try.sizeOf43 rfl rfl (hs111_140.isSome (by simp)) (by omega) (by simp)) ?_
  refine FWl.val 66 rfl rfl (Value.agg #[Value.string (⟨#[98]⟩ : ByteArray), Value.bool false]) _ (r_loadGN Try.isAgg43 Try.sizeOf43 hg145 rfl hH134) ?_
  refine FWl.alloc (cs := [Value.string ByteArray.empty, Value.bool false]) rfl rfl rfl Try.zeroValue43 rfl hH134 ?_
  intro g146 w147 st148 e149 hg150
  have hge_st148_hE := Nat.le_trans hE_131.size (Nat.le_of_eq hg150)
  have hE_151 := hE_131.step e149
  have st93_152 := st93_132.call e149
  have hm94_153 := hm94_133.call e149
  have hH154 := e149.has
  have hlt_st148 := st148.lt
  refine FWl.store (vs := [Value.string (⟨#[98]⟩ : ByteArray), Value.bool false]) (cs' := [Value.string (⟨#[98]⟩ : ByteArray), Value.bool false]) rfl rfl rfl Try.sizeOf43 rfl st148 hH154 rfl rfl rfl rfl rfl rfl ?_
  intro w155 m156 st148_157
  have hE_158 := hE_151.trans (m156.ext hE_151.size (by omega))
  have st93_159 := st93_152.other m156 (st93_152.ne_type st148 (by decide))
  have hm94_160 := hm94_153.other m156 st148 (by decide)
  have hH161 := m156.has
  obtain ⟨C162, m163, hcg164⟩ := st148_157.commit hH161
  have hE_165 := hE_158.trans (m163.ext hE_158.size (by omega))
  have st93_166 := st93_159.other m163 (st93_159.ne_type st148_157 (by decide))
  have hm94_167 := hm94_160.other m163 st148_157 (by decide)
  have hH168 := m163.has
  have hs29_171 := hs29_137.mono m163.le
  refine FWl.nil (hK26 _ _ ?_)
  clear hK26 K26
  refine FW.seq_k fun K27 hK27 => ?_
  refine FW.region rfl ?_
  refine FWl.val 67 rfl rfl (Value.string (⟨#[45]⟩ : ByteArray)) _ (r_move) ?_
  refine FWl.val 68 rfl rfl (Value.pointer (some ⟨g146, 0, none⟩)) _ (r_fieldAddrS Try.underlying43 rfl Try.sizeOf9 rfl rfl rfl rfl) ?_
  refine FWl.val 69 rfl rfl (Value.string (⟨#[98]⟩ : ByteArray)) _ (r_loadP1 Try.isAgg9 hcg164 rfl rfl hH168) ?_
  refine FWl.val 70 rfl rfl (Value.string (⟨#[45, 98]⟩ : ByteArray)) _ (r_concatE (s := (⟨#[45]⟩ : ByteArray)) (s' := (⟨#[98]⟩ : ByteArray)) rfl rfl (by decide) (by kernel_rfl)) ?_
  refine FWl.val 71 rfl rfl (Value.string (⟨#[45, 98, 10]⟩ : ByteArray)) _ (r_concatE (s := (⟨#[45, 98]⟩ : ByteArray)) (s' := ({ data := #[10] })) rfl rfl (by decide) (by kernel_rfl)) ?_
  refine FWl.call 72 rfl rfl 33 #[Value.pointer (some ⟨g14, 0, none⟩), Value.string (⟨#[45, 98, 10]⟩ : ByteArray)] (r_call2 Try.call33 rfl rfl rfl) ((WriteString_1 hH168 (by omega) st93_166 hm94_167 (by decide)).mono ?_)
  rintro _ w182 ⟨rfl, A177, c178, e179, st180, hm181⟩
  have hE_183 := hE_165.trans e179
  have hs29_186 := hs29_171.mono e179.le
  have hcg164_192 := hcg164.mono e179.le
  have hH193 := e179.has
  refine FWl.nil (hK27 _ _ ?_)
  clear hK27 K27
  refine FW.seq_k fun K28 hK28 => ?_
  refine FW.region rfl ?_
  refine FWl.val 73 rfl rfl (Value.pointer (some ⟨g146, 1, none⟩)) _ (r_fieldAddrS Try.underlying43 rfl Try.sizeOf4 rfl rfl rfl rfl) ?_
  refine FWl.val 74 rfl rfl (Value.bool false) _ (r_loadP1 Try.isAgg4 hcg164_192 rfl rfl hH193) ?_
  refine FWl.nil (hK28 _ _ ?_)
  clear hK28 K28
  refine FW.cond false rfl (fun h => nomatch h) (fun _ => ?_)
  refine FW.skip (hK25 _ _ ?_)
  clear hK25 K25
  refine FW.region rfl ?_
  refine FWl.val 76 rfl rfl (Value.int .i64 1) _ (r_addE (a := 0) (b := 1) rfl rfl (by decide)) ?_
  refine FWl.val 63 rfl rfl (Value.int .i64 1) _ (r_move) ?_
  refine FWl.nil (thenF_round ?_)
  refine FW.seq_k fun K29 hK29 => ?_
  refine FW.region rfl ?_
  refine FWl.val 64 rfl rfl (Value.bool false) _ (r_lss (a := 1) (b := 1) rfl rfl) ?_
  refine FWl.nil (hK29 _ _ ?_)
  clear hK29 K29
  refine FW.seq_k fun K30 hK30 => ?_
  refine FW.cond false rfl (fun h => nomatch h) (fun _ => ?_)
  refine FW.exit (thenF_exit (thenF_exit (inBlockF_hit (hK19 _ _ ?_))))
  clear hK19 K19 hK30 K30
  refine FW.region rfl ?_
  refine FWl.val 77 rfl rfl (Value.int .i64 1) _ (r_addE (a := 0) (b := 1) rfl rfl (by decide)) ?_
  refine FWl.val 48 rfl rfl (Value.int .i64 1) _ (r_move) ?_
  refine FWl.nil (thenF_round ?_)
  refine FW.seq_k fun K31 hK31 => ?_
  refine FW.region rfl ?_
  refine FWl.val 49 rfl rfl (Value.bool true) _ (r_lss (a := 1) (b := 2) rfl rfl) ?_
  refine FWl.nil (hK31 _ _ ?_)
  clear hK31 K31
  refine FW.seq_k fun K32 hK32 => ?_
  refine FW.cond true rfl (fun _ => ?_) (fun h => nomatch h)
  refine FW.skip (hK32 _ _ ?_)
  clear hK32 K32
  refine FW.seq_k fun K33 hK33 => ?_
  refine FW.block ?_
  refine FW.seq_k fun K34 hK34 => ?_
  refine FW.region rfl ?_
  have hx195 : ([(⟨2, [(⟨(⟨#[98]⟩ : ByteArray), false⟩ : Line)]⟩ : Edit), (⟨3, [(⟨(⟨#[99]⟩ : ByteArray), false⟩ : Line)]⟩ : Edit)] : List Edit)[(1 : Int).toNat]? = some (⟨3, [(⟨(⟨#[99]⟩ : ByteArray), false⟩ : Line)]⟩ : Edit) := rfl
  obtain ⟨cs196, hr197, hg198⟩ := hs29_186.at_ _ _ hx195
  obtain ⟨A199, c200, rfl, hs201⟩ := hr197
  refine FWl.val 50 rfl rfl (ptrAt A27 ((1 : Int).toNat * 2)) _ (r_indexAddr Try.underlying26 Try.sizeOf57 rfl rfl (hs29_186.isSome (by simp)) (by omega) (by simp)) ?_
  refine FWl.val 51 rfl rfl (Value.agg #[Value.int .i64 3, Value.slice A199 (([(⟨(⟨#[99]⟩ : ByteArray), false⟩ : Line)]).length) c200]) _ (r_loadGN Try.isAgg57 Try.sizeOf57 hg198 rfl hH193) ?_
  refine FWl.alloc (cs := [Value.int .i64 0, Value.slice none 0 0]) rfl rfl rfl Try.zeroValue57 rfl hH193 ?_
  intro g202 w203 st204 e205 hg206
  have hge_st204_hE := Nat.le_trans hE_183.size (Nat.le_of_eq hg206)
  have hE_207 := hE_183.step e205
  have st180_208 := st180.call e205
  have hm181_209 := hm181.call e205
  have hH210 := e205.has
  have hlt_st204 := st204.lt
  refine FWl.store (vs := [Value.int .i64 3, Value.slice A199 (([(⟨(⟨#[99]⟩ : ByteArray), false⟩ : Line)]).length) c200]) (cs' := [Value.int .i64 3, Value.slice A199 (([(⟨(⟨#[99]⟩ : ByteArray), false⟩ : Line)]).length) c200]) rfl rfl rfl Try.sizeOf57 rfl st204 hH210 rfl rfl rfl rfl rfl rfl ?_
  intro w211 m212 st204_213
  have hE_214 := hE_207.trans (m212.ext hE_207.size (by omega))
  have st180_215 := st180_208.other m212 (st180_208.ne_type st204 (by decide))
  have hm181_216 := hm181_209.other m212 st204 (by decide)
  have hH217 := m212.has
  obtain ⟨C218, m219, hcg220⟩ := st204_213.commit hH217
  have hE_221 := hE_214.trans (m219.ext hE_214.size (by omega))
  have st180_222 := st180_215.other m219 (st180_215.ne_type st204_213 (by decide))
  have hm181_223 := hm181_216.other m219 st204_213 (by decide)
  have hH224 := m219.has
  have hs201_235 := hs201.mono m219.le
  refine FWl.nil (hK34 _ _ ?_)
  clear hK34 K34
  refine FW.seq_k fun K35 hK35 => ?_
  refine FW.region rfl ?_
  refine FWl.val 52 rfl rfl (Value.pointer (some ⟨g202, 0, none⟩)) _ (r_fieldAddrS Try.underlying57 rfl Try.sizeOf55 rfl rfl rfl rfl) ?_
  refine FWl.val 53 rfl rfl (Value.int .i64 3) _ (r_loadP1 Try.isAgg55 hcg220 rfl rfl hH224) ?_
  refine FWl.val 54 rfl rfl (Value.int .i64 2) _ (r_subE (a := 3) (b := 1) rfl rfl (by decide)) ?_
  refine FWl.val 55 rfl rfl (Value.pointer (some ⟨g202, 0, none⟩)) _ (r_fieldAddrS Try.underlying57 rfl Try.sizeOf55 rfl rfl rfl rfl) ?_
  refine FWl.val 56 rfl rfl (Value.int .i64 3) _ (r_loadP1 Try.isAgg55 hcg220 rfl rfl hH224) ?_
  refine FWl.val 57 rfl rfl (Value.int .i64 2) _ (r_subE (a := 3) (b := 1) rfl rfl (by decide)) ?_
  refine FWl.val 58 rfl rfl (Value.int .i64 3) _ (r_addE (a := 2) (b := 1) rfl rfl (by decide)) ?_
  refine FWl.val 59 rfl rfl (Value.string (⟨#[43]⟩ : ByteArray)) _ (r_sliceStrE (s := (⟨#[32, 45, 43]⟩ : ByteArray)) (l := 2) (h := 3) Try.underlying9 rfl rfl rfl (by decide) (by decide) (by decide) (by kernel_rfl)) ?_
  refine FWl.val 11 rfl rfl (Value.string (⟨#[43]⟩ : ByteArray)) _ (r_assign) ?_
  refine FWl.nil (hK35 _ _ ?_)
  clear hK35 K35
  refine FW.seq_k fun K36 hK36 => ?_
  refine FW.region rfl ?_
  refine FWl.val 60 rfl rfl (Value.pointer (some ⟨g202, 1, none⟩)) _ (r_fieldAddrS Try.underlying57 rfl Try.sizeOf22 rfl rfl rfl rfl) ?_
  refine FWl.val 61 rfl rfl (Value.slice A199 (([(⟨(⟨#[99]⟩ : ByteArray), false⟩ : Line)]).length) c200) _ (r_loadP1 Try.isAgg22 hcg220 rfl rfl hH224) ?_
  refine FWl.val 62 rfl rfl (Value.int .i64 1) _ (r_lenSl Try.underlying22 rfl) ?_
  refine FWl.val 63 rfl rfl (Value.int .i64 0) _ (r_move) ?_
  refine FWl.nil (hK36 _ _ ?_)
  clear hK36 K36
  refine FW.block ?_
  refine FW.loop_in (FWL.unroll ?_)
  refine FW.seq_k fun K37 hK37 => ?_
  refine FW.region rfl ?_
  refine FWl.val 64 rfl rfl (Value.bool true) _ (r_lss (a := 0) (b := 1) rfl rfl) ?_
  refine FWl.nil (hK37 _ _ ?_)
  clear hK37 K37
  refine FW.seq_k fun K38 hK38 => ?_
  refine FW.cond true rfl (fun _ => ?_) (fun h => nomatch h)
  refine FW.skip (hK38 _ _ ?_)
  clear hK38 K38
  refine FW.seq_k fun K39 hK39 => ?_
  refine FW.block ?_
  refine FW.seq_k fun K40 hK40 => ?_
  refine FW.region rfl ?_
  have hx237 : ([(⟨(⟨#[99]⟩ : ByteArray), false⟩ : Line)] : List Line)[(0 : Int).toNat]? = some (⟨(⟨#[99]⟩ : ByteArray), false⟩ : Line) := rfl
  obtain ⟨cs238, hr239, hg240⟩ := hs201_235.at_ _ _ hx237
  obtain rfl := hr239
  refine FWl.val 65 rfl rfl (ptrAt A199 ((0 : Int).toNat * 2)) _ (r_indexAddr Try.underlying22 Try.sizeOf43 rfl rfl (hs201_235.isSome (by simp)) (by omega) (by simp)) ?_
  refine FWl.val 66 rfl rfl (Value.agg #[Value.string (⟨#[99]⟩ : ByteArray), Value.bool false]) _ (r_loadGN Try.isAgg43 Try.sizeOf43 hg240 rfl hH224) ?_
  refine FWl.alloc (cs := [Value.string ByteArray.empty, Value.bool false]) rfl rfl rfl Try.zeroValue43 rfl hH224 ?_
  intro g241 w242 st243 e244 hg245
  have hge_st243_hE := Nat.le_trans hE_221.size (Nat.le_of_eq hg245)
  have hE_246 := hE_221.step e244
  have st180_247 := st180_222.call e244
  have hm181_248 := hm181_223.call e244
  have hH249 := e244.has
  have hlt_st243 := st243.lt
  refine FWl.store (vs := [Value.string (⟨#[99]⟩ : ByteArray), Value.bool false]) (cs' := [Value.string (⟨#[99]⟩ : ByteArray), Value.bool false]) rfl rfl rfl Try.sizeOf43 rfl st243 hH249 rfl rfl rfl rfl rfl rfl ?_
  intro w250 m251 st243_252
  have hE_253 := hE_246.trans (m251.ext hE_246.size (by omega))
  have st180_254 := st180_247.other m251 (st180_247.ne_type st243 (by decide))
  have hm181_255 := hm181_248.other m251 st243 (by decide)
  have hH256 := m251.has
  obtain ⟨C257, m258, hcg259⟩ := st243_252.commit hH256
  have hE_260 := hE_253.trans (m258.ext hE_253.size (by omega))
  have st180_261 := st180_254.other m258 (st180_254.ne_type st243_252 (by decide))
  have hm181_262 := hm181_255.other m258 st243_252 (by decide)
  have hH263 := m258.has
  refine FWl.nil (hK40 _ _ ?_)
  clear hK40 K40
  refine FW.seq_k fun K41 hK41 => ?_
  refine FW.region rfl ?_
  refine FWl.val 67 rfl rfl (Value.string (⟨#[43]⟩ : ByteArray)) _ (r_move) ?_
  refine FWl.val 68 rfl rfl (Value.pointer (some ⟨g241, 0, none⟩)) _ (r_fieldAddrS Try.underlying43 rfl Try.sizeOf9 rfl rfl rfl rfl) ?_
  refine FWl.val 69 rfl rfl (Value.string (⟨#[99]⟩ : ByteArray)) _ (r_loadP1 Try.isAgg9 hcg259 rfl rfl hH263) ?_
  refine FWl.val 70 rfl rfl (Value.string (⟨#[43, 99]⟩ : ByteArray)) _ (r_concatE (s := (⟨#[43]⟩ : ByteArray)) (s' := (⟨#[99]⟩ : ByteArray)) rfl rfl (by decide) (by kernel_rfl)) ?_
  refine FWl.val 71 rfl rfl (Value.string (⟨#[43, 99, 10]⟩ : ByteArray)) _ (r_concatE (s := (⟨#[43, 99]⟩ : ByteArray)) (s' := ({ data := #[10] })) rfl rfl (by decide) (by kernel_rfl)) ?_
  refine FWl.call 72 rfl rfl 33 #[Value.pointer (some ⟨g14, 0, none⟩), Value.string (⟨#[43, 99, 10]⟩ : ByteArray)] (r_call2 Try.call33 rfl rfl rfl) ((WriteString_1 hH263 (by omega) st180_261 hm181_262 (by decide)).mono ?_)
  rintro _ w282 ⟨rfl, A277, c278, e279, st280, hm281⟩
  have hE_283 := hE_260.trans e279
  have hcg259_297 := hcg259.mono e279.le
  have hH298 := e279.has
  refine FWl.nil (hK41 _ _ ?_)
  clear hK41 K41
  refine FW.seq_k fun K42 hK42 => ?_
  refine FW.region rfl ?_
  refine FWl.val 73 rfl rfl (Value.pointer (some ⟨g241, 1, none⟩)) _ (r_fieldAddrS Try.underlying43 rfl Try.sizeOf4 rfl rfl rfl rfl) ?_
  refine FWl.val 74 rfl rfl (Value.bool false) _ (r_loadP1 Try.isAgg4 hcg259_297 rfl rfl hH298) ?_
  refine FWl.nil (hK42 _ _ ?_)
  clear hK42 K42
  refine FW.cond false rfl (fun h => nomatch h) (fun _ => ?_)
  refine FW.skip (hK39 _ _ ?_)
  clear hK39 K39
  refine FW.region rfl ?_
  refine FWl.val 76 rfl rfl (Value.int .i64 1) _ (r_addE (a := 0) (b := 1) rfl rfl (by decide)) ?_
  refine FWl.val 63 rfl rfl (Value.int .i64 1) _ (r_move) ?_
  refine FWl.nil (thenF_round ?_)
  refine FW.seq_k fun K43 hK43 => ?_
  refine FW.region rfl ?_
  refine FWl.val 64 rfl rfl (Value.bool false) _ (r_lss (a := 1) (b := 1) rfl rfl) ?_
  refine FWl.nil (hK43 _ _ ?_)
  clear hK43 K43
  refine FW.seq_k fun K44 hK44 => ?_
  refine FW.cond false rfl (fun h => nomatch h) (fun _ => ?_)
  refine FW.exit (thenF_exit (thenF_exit (inBlockF_hit (hK33 _ _ ?_))))
  clear hK33 K33 hK44 K44
  refine FW.region rfl ?_
  refine FWl.val 77 rfl rfl (Value.int .i64 2) _ (r_addE (a := 1) (b := 1) rfl rfl (by decide)) ?_
  refine FWl.val 48 rfl rfl (Value.int .i64 2) _ (r_move) ?_
  refine FWl.nil (thenF_round ?_)
  refine FW.seq_k fun K45 hK45 => ?_
  refine FW.region rfl ?_
  refine FWl.val 49 rfl rfl (Value.bool false) _ (r_lss (a := 2) (b := 2) rfl rfl) ?_
  refine FWl.nil (hK45 _ _ ?_)
  clear hK45 K45
  refine FW.seq_k fun K46 hK46 => ?_
  refine FW.cond false rfl (fun h => nomatch h) (fun _ => ?_)
  refine FW.exit (thenF_exit (thenF_exit (inBlockF_hit (hK13 _ _ ?_))))
  clear hK13 K13 hK46 K46
  refine FW.region rfl ?_
  refine FWl.val 78 rfl rfl (Value.int .i64 1) _ (r_addE (a := 0) (b := 1) rfl rfl (by decide)) ?_
  refine FWl.val 26 rfl rfl (Value.int .i64 1) _ (r_move) ?_
  refine FWl.nil (thenF_round ?_)
  refine FW.seq_k fun K47 hK47 => ?_
  refine FW.region rfl ?_
  refine FWl.val 27 rfl rfl (Value.bool false) _ (r_lss (a := 1) (b := 1) rfl rfl) ?_
  refine FWl.nil (hK47 _ _ ?_)
  clear hK47 K47
  refine FW.seq_k fun K48 hK48 => ?_
  refine FW.cond false rfl (fun h => nomatch h) (fun _ => ?_)
  refine FW.exit (thenF_exit (thenF_exit (inBlockF_hit (hK9 _ _ ?_))))
  clear hK9 K9 hK48 K48
  refine FW.seq_k fun K49 hK49 => ?_
  refine FW.seq_k fun K50 hK50 => ?_
  refine FW.region rfl ?_
  refine FWl.call 79 rfl rfl 35 #[Value.pointer (some ⟨g14, 0, none⟩)] (r_call1 Try.call35 rfl rfl) ((Len_c hH298 st280).mono ?_)
  rintro _ w299 ⟨rfl, e300⟩
  have hE_301 := hE_283.step e300
  have st280_302 := st280.call e300
  have hm281_303 := hm281.call e300
  refine FWl.val 80 rfl rfl (Value.bool false) _ (r_gtr (a := 22) (b := 32768) rfl rfl) ?_
  refine FWl.nil (hK50 _ _ ?_)
  clear hK50 K50
  refine FW.cond false rfl (fun h => nomatch h) (fun _ => ?_)
  refine FW.skip (hK49 _ _ ?_)
  clear hK49 K49
  refine FW.seq_k fun K51 hK51 => ?_
  refine FW.region rfl ?_
  refine FWl.call 81 rfl rfl 36 #[Value.pointer (some ⟨g14, 0, none⟩)] (r_call1 Try.call36 rfl rfl) ((String_c (l := [64, 64, 32, 45, 50, 44, 49, 32, 43, 50, 44, 49, 32, 64, 64, 10, 45, 98, 10, 43, 99, 10]) hge_st16_hE st280_302 hm281_303 (by rfl) (by decide)).mono ?_)
  rintro _ w305 ⟨rfl, hb306⟩
  have e307 : Ext w.heap.size w C w305 C := ⟨hE_301.below.trans hb306, hH.below (hE_301.below.trans hb306), Gle.refl _, fun _ _ _ => rfl⟩
  have hH308 := e307.has
  refine FWl.strBytes (l := [64, 64, 32, 45, 50, 44, 49, 32, 43, 50, 44, 49, 32, 64, 64, 10, 45, 98, 10, 43, 99, 10]) rfl rfl rfl Try.underlying9 Try.underlying47 Try.underlying5 rfl (by decide) hH308 ?_
  intro A309 c310 w311 C312 hs313 e314
  have hE_315 := e307.step e314
  have hs317 : Sl (kInt .u8) C312 A309 c310 [64, 64, 32, 45, 50, 44, 49, 32, 43, 50, 44, 49, 32, 64, 64, 10, 45, 98, 10, 43, 99, 10] := hs313
  refine FWl.val 2 rfl rfl (Value.slice A309 (([64, 64, 32, 45, 50, 44, 49, 32, 43, 50, 44, 49, 32, 64, 64, 10, 45, 98, 10, 43, 99, 10]).length) c310) _ (r_assign) ?_
  refine FWl.val 3 rfl rfl (Value.int .i64 0) _ (r_assign) ?_
  refine FWl.nil (hK51 _ _ ?_)
  clear hK51 K51
  refine FW.ret (?_)
  refine ret_tmp2 (v := Value.slice A309 (([64, 64, 32, 45, 50, 44, 49, 32, 43, 50, 44, 49, 32, 64, 64, 10, 45, 98, 10, 43, 99, 10]).length) c310) (v' := Value.int .i64 0) Try.results17 (.inl rfl) rfl rfl ?_
  exact ⟨C312, A309, c310, rfl, hE_315, hs317⟩

end Go.Proofs.Ytlofomkhiefbmaa
