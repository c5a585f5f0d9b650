/- Walks. -/
import Derived.Test.YtlofomkhiefbmaaJH
import Derived.Test.YtlofomkhiefbmaaJT
import Derived.Test.YtlofomkhiefbmaaJM
import Derived.Test.YtlofomkhiefbmaaM11
import Derived.Test.YtlofomkhiefbmaaM12
set_option maxRecDepth 10000
set_option linter.unusedVariables false
set_option linter.unusedSimpArgs false
namespace Go.Proofs.Ytlofomkhiefbmaa
open Go.RowKit
theorem Lines_b {A : Option Addr} {w : World} {C : Gh} (hH : Has w C) (hb : Sl (kInt .u8) C A 4 [97, 10, 98, 10]) : Ret Try.prog 15 #[Value.slice A (([97, 10, 98, 10]).length) 4] w fun v w' => ∃ (C' : Gh) (A' : Option Addr) (c' : Nat), v = Value.slice A' (([(⟨(⟨#[97]⟩ : ByteArray), false⟩ : Line), (⟨(⟨#[98]⟩ : ByteArray), false⟩ : Line)]).length) c' ∧ Ext w.heap.size w C w' C' ∧ Sl kLine C' A' c' [(⟨(⟨#[97]⟩ : ByteArray), false⟩ : Line), (⟨(⟨#[98]⟩ : ByteArray), false⟩ : Line)] := by
  refine Ret.of Try.func15 rfl Try.ntmps15 rfl ?_
  have hE := Ext.refl (B := w.heap.size) hH
  have bd_hb := hb.bd
  refine FW.seq_k fun K1 hK1 => ?_
  refine FW.region rfl ?_
  refine FWl.val 2 rfl rfl (Value.slice none 0 0) _ (r_assign) ?_
  refine FWl.nil (hK1 _ _ ?_)
  clear hK1 K1
  refine FW.scope ?_
  refine FW.seq_k fun K2 hK2 => ?_
  refine FW.region rfl ?_
  refine FWl.val 3 rfl rfl (Value.slice none 0 0) _ (r_assign) ?_
  refine FWl.nil (hK2 _ _ ?_)
  clear hK2 K2
  refine FW.seq_k fun K3 hK3 => ?_
  refine FW.region rfl ?_
  refine FWl.val 7 rfl rfl (Value.slice A (([97, 10, 98, 10]).length) 4) _ (r_move) ?_
  refine FWl.val 4 rfl rfl (Value.slice A (([97, 10, 98, 10]).length) 4) _ (r_assign) ?_
  refine FWl.nil (hK3 _ _ ?_)
  clear hK3 K3
  refine FW.seq_k fun K4 hK4 => ?_
  refine FW.label (hK4 _ _ ?_)
  clear hK4 K4
  refine FW.seq_k fun K5 hK5 => ?_
  refine FW.block ?_
  refine FW.loop_in (FWL.unroll ?_)
  refine FW.seq_k fun K6 hK6 => ?_
  refine FW.seq_k fun K7 hK7 => ?_
  refine FW.region rfl ?_
  refine FWl.val 8 rfl rfl (Value.slice A (([97, 10, 98, 10]).length) 4) _ (r_move) ?_
  refine FWl.val 9 rfl rfl (Value.int .i64 4) _ (r_lenSl Try.underlying47 rfl) ?_
  refine FWl.val 10 rfl rfl (Value.bool true) _ (r_gtr (a := 4) (b := 0) rfl rfl) ?_
  refine FWl.nil (hK7 _ _ ?_)
  clear hK7 K7
  refine FW.cond true rfl (fun _ => ?_) (fun h => nomatch h)
  refine FW.skip (hK6 _ _ ?_)
  clear hK6 K6
  refine FW.block ?_
  refine FW.seq_k fun K8 hK8 => ?_
  refine FW.seq_k fun K9 hK9 => ?_
  refine FW.region rfl ?_
  refine FWl.val 11 rfl rfl (Value.slice A (([97, 10, 98, 10]).length) 4) _ (r_move) ?_
  refine FWl.val 12 rfl rfl (Value.int .i64 4) _ (r_lenSl Try.underlying47 rfl) ?_
  refine FWl.val 13 rfl rfl (Value.int .i64 0) _ (r_move) ?_
  refine FWl.nil (hK9 _ _ ?_)
  clear hK9 K9
  refine FW.block ?_
  refine FW.loop_in (FWL.unroll ?_)
  refine FW.seq_k fun K10 hK10 => ?_
  refine FW.region rfl ?_
  refine FWl.val 14 rfl rfl (Value.bool true) _ (r_lss (a := 0) (b := 4) rfl rfl) ?_
  refine FWl.nil (hK10 _ _ ?_)
  clear hK10 K10
  refine FW.seq_k fun K11 hK11 => ?_
  refine FW.cond true rfl (fun _ => ?_) (fun h => nomatch h)
  refine FW.skip (hK11 _ _ ?_)
  clear hK11 K11
  refine FW.seq_k fun K12 hK12 => ?_
  refine FW.block ?_
  refine FW.seq_k fun K13 hK13 => ?_
  refine FW.region rfl ?_
  refine FWl.val 15 rfl rfl (Value.int .i64 0) _ (r_move) ?_
  have hx2 : ([97, 10, 98, 10] : List Int)[(0 : Int).toNat]? = some 97 := rfl
  obtain ⟨cs3, hr4, hg5⟩ := hb.at_ _ _ hx2
  obtain rfl := hr4
  refine FWl.val 16 rfl rfl (ptrAt A ((0 : Int).toNat * 1)) _ (r_indexAddr Try.underlying47 Try.sizeOf5 rfl rfl (hb.isSome (by simp)) (by omega) (by simp)) ?_
  refine FWl.val 17 rfl rfl (Value.int .u8 97) _ (r_loadG1 (i := 0) Try.isAgg5 hg5 rfl rfl hH) ?_
  refine FWl.val 5 rfl rfl (Value.int .i64 0) _ (r_assign) ?_
  refine FWl.val 6 rfl rfl (Value.int .u8 97) _ (r_assign) ?_
  refine FWl.nil (hK13 _ _ ?_)
  clear hK13 K13
  refine FW.seq_k fun K14 hK14 => ?_
  refine FW.region rfl ?_
  refine FWl.val 18 rfl rfl (Value.int .u8 97) _ (r_move) ?_
  refine FWl.val 19 rfl rfl (Value.bool false) _ (r_eql (a := 97) (b := 10) rfl rfl) ?_
  refine FWl.nil (hK14 _ _ ?_)
  clear hK14 K14
  refine FW.cond false rfl (fun h => nomatch h) (fun _ => ?_)
  refine FW.skip (hK12 _ _ ?_)
  clear hK12 K12
  refine FW.region rfl ?_
  refine FWl.val 33 rfl rfl (Value.int .i64 1) _ (r_addE (a := 0) (b := 1) rfl rfl (by decide)) ?_
  refine FWl.val 13 rfl rfl (Value.int .i64 1) _ (r_move) ?_
  refine FWl.nil (thenF_round ?_)
  refine FW.seq_k fun K15 hK15 => ?_
  refine FW.region rfl ?_
  refine FWl.val 14 rfl rfl (Value.bool true) _ (r_lss (a := 1) (b := 4) rfl rfl) ?_
  refine FWl.nil (hK15 _ _ ?_)
  clear hK15 K15
  refine FW.seq_k fun K16 hK16 => ?_
  refine FW.cond true rfl (fun _ => ?_) (fun h => nomatch h)
  refine FW.skip (hK16 _ _ ?_)
  clear hK16 K16
  refine FW.seq_k fun K17 hK17 => ?_
  refine FW.block ?_
  refine FW.seq_k fun K18 hK18 => ?_
  refine FW.region rfl ?_
  refine FWl.val 15 rfl rfl (Value.int .i64 1) _ (r_move) ?_
  have hx7 : ([97, 10, 98, 10] : List Int)[(1 : Int).toNat]? = some 10 := rfl
  obtain ⟨cs8, hr9, hg10⟩ := hb.at_ _ _ hx7
  obtain rfl := hr9
  refine FWl.val 16 rfl rfl (ptrAt A ((1 : Int).toNat * 1)) _ (r_indexAddr Try.underlying47 Try.sizeOf5 rfl rfl (hb.isSome (by simp)) (by omega) (by simp)) ?_
  refine FWl.val 17 rfl rfl (Value.int .u8 10) _ (r_loadG1 (i := 0) Try.isAgg5 hg10 rfl rfl hH) ?_
  refine FWl.val 5 rfl rfl (Value.int .i64 1) _ (r_assign) ?_
  refine FWl.val 6 rfl rfl (Value.int .u8 10) _ (r_assign) ?_
  refine FWl.nil (hK18 _ _ ?_)
  clear hK18 K18
  refine FW.seq_k fun K19 hK19 => ?_
  refine FW.region rfl ?_
  refine FWl.val 18 rfl rfl (Value.int .u8 10) _ (r_move) ?_
  refine FWl.val 19 rfl rfl (Value.bool true) _ (r_eql (a := 10) (b := 10) rfl rfl) ?_
  refine FWl.nil (hK19 _ _ ?_)
  clear hK19 K19
  refine FW.cond true rfl (fun _ => ?_) (fun h => nomatch h)
  refine FW.seq_k fun K20 hK20 => ?_
  refine FW.region rfl ?_
  refine FWl.val 20 rfl rfl (Value.slice none 0 0) _ (r_move) ?_
  refine FWl.val 21 rfl rfl (Value.slice A (([97, 10, 98, 10]).length) 4) _ (r_move) ?_
  refine FWl.val 22 rfl rfl (Value.int .i64 1) _ (r_move) ?_
  refine FWl.val 23 rfl rfl (Value.int .i64 1) _ (r_move) ?_
  have hs11 : Sl (kInt .u8) C A 1 ([97]) := hb.take 1 (by decide)
  refine FWl.val 24 rfl rfl (Value.slice A (([97]).length) 1) _ (r_sliceHM (n := 4) (c := 4) (h := 1) (m := 1) Try.underlying47 Try.sizeOf5 rfl rfl rfl (by decide) (by decide) (by decide)) ?_
  refine FWl.val 25 rfl rfl (Value.string (⟨#[97]⟩ : ByteArray)) _ (r_bytesStr (l := [97]) (r := (⟨#[97]⟩ : ByteArray)) Try.underlying47 Try.underlying5 Try.underlying9 hs11 rfl rfl (by decide) hH rfl) ?_
  refine FWl.val 26 rfl rfl (Value.agg #[Value.string (⟨#[97]⟩ : ByteArray), Value.bool false]) _ (r_build (by kernel_rfl)) ?_
  refine FWl.lit (K := kLine) (xs := [(⟨(⟨#[97]⟩ : ByteArray), false⟩ : Line)]) (cs := [Value.string (⟨#[97]⟩ : ByteArray), Value.bool false]) rfl rfl rfl Try.underlying22 info43 zero43 rfl (by kernel_rfl) (.cons (cs := [Value.string (⟨#[97]⟩ : ByteArray), Value.bool false]) (kLine_mk) .nil) rfl hH ?_
  intro A12 w13 C14 hs15 e16 hcg17
  have hE_18 := hE.step e16
  have hb_19 := hb.mono e16.le
  have hH23 := e16.has
  refine FWl.app (K := kLine) (B := w.heap.size) (xs := []) (ys := [(⟨(⟨#[97]⟩ : ByteArray), false⟩ : Line)]) (sz := 2) (bytes := 24) rfl rfl rfl Try.underlying22 info43 zero43 rfl rfl rfl rfl rfl rfl rfl (Sl.nil kLine _ _ _) Own.full hs15 hH23 hE_18.size (by simp only [List.length_cons, List.length_nil]; omega) (by simp only [List.length_cons, List.length_nil]; omega) ?_
  intro A24 c25 w26 C27 hs28 ow29 e30 ap31
  have hE_32 := hE_18.trans e30
  have hb_33 := hb_19.mono e30.le
  have hH39 := e30.has
  refine FWl.val 3 rfl rfl (Value.slice A24 (([(⟨(⟨#[97]⟩ : ByteArray), false⟩ : Line)]).length) c25) _ (r_assign) ?_
  refine FWl.nil (hK20 _ _ ?_)
  clear hK20 K20
  refine FW.seq_k fun K21 hK21 => ?_
  refine FW.region rfl ?_
  refine FWl.val 29 rfl rfl (Value.slice A (([97, 10, 98, 10]).length) 4) _ (r_move) ?_
  refine FWl.val 30 rfl rfl (Value.int .i64 1) _ (r_move) ?_
  refine FWl.val 31 rfl rfl (Value.int .i64 2) _ (r_addE (a := 1) (b := 1) rfl rfl (by decide)) ?_
  have hs40 : Sl (kInt .u8) C27 (A.map (·.add (2 * 1))) 2 ([98, 10]) := hb_33.drop 2 (by decide)
  refine FWl.val 32 rfl rfl (Value.slice (A.map (·.add (2 * 1))) (([98, 10]).length) 2) _ (r_sliceL (n := 4) (c := 4) (l := 2) Try.underlying47 Try.sizeOf5 rfl rfl (by decide) (by decide)) ?_
  refine FWl.val 4 rfl rfl (Value.slice (A.map (·.add (2 * 1))) (([98, 10]).length) 2) _ (r_assign) ?_
  refine FWl.nil (hK21 _ _ ?_)
  clear hK21 K21
  refine FW.exit (inBlockF_miss rfl (thenF_exit (thenF_exit (inBlockF_miss rfl (thenF_exit (inBlockF_hit (thenF_round ?_)))))))
  refine FW.seq_k fun K22 hK22 => ?_
  refine FW.seq_k fun K23 hK23 => ?_
  refine FW.region rfl ?_
  refine FWl.val 8 rfl rfl (Value.slice (A.map (·.add (2 * 1))) (([98, 10]).length) 2) _ (r_move) ?_
  refine FWl.val 9 rfl rfl (Value.int .i64 2) _ (r_lenSl Try.underlying47 rfl) ?_
  refine FWl.val 10 rfl rfl (Value.bool true) _ (r_gtr (a := 2) (b := 0) rfl rfl) ?_
  refine FWl.nil (hK23 _ _ ?_)
  clear hK23 K23
  refine FW.cond true rfl (fun _ => ?_) (fun h => nomatch h)
  refine FW.skip (hK22 _ _ ?_)
  clear hK22 K22
  refine FW.block ?_
  refine FW.seq_k fun K24 hK24 => ?_
  refine FW.seq_k fun K25 hK25 => ?_
  refine FW.region rfl ?_
  refine FWl.val 11 rfl rfl (Value.slice (A.map (·.add (2 * 1))) (([98, 10]).length) 2) _ (r_move) ?_
  refine FWl.val 12 rfl rfl (Value.int .i64 2) _ (r_lenSl Try.underlying47 rfl) ?_
  refine FWl.val 13 rfl rfl (Value.int .i64 0) _ (r_move) ?_
  refine FWl.nil (hK25 _ _ ?_)
  clear hK25 K25
  refine FW.block ?_
  refine FW.loop_in (FWL.unroll ?_)
  refine FW.seq_k fun K26 hK26 => ?_
  refine FW.region rfl ?_
  refine FWl.val 14 rfl rfl (Value.bool true) _ (r_lss (a := 0) (b := 2) rfl rfl) ?_
  refine FWl.nil (hK26 _ _ ?_)
  clear hK26 K26
  refine FW.seq_k fun K27 hK27 => ?_
  refine FW.cond true rfl (fun _ => ?_) (fun h => nomatch h)
  refine FW.skip (hK27 _ _ ?_)
  clear hK27 K27
  refine FW.seq_k fun K28 hK28 => ?_
  refine FW.block ?_
  refine FW.seq_k fun K29 hK29 => ?_
  refine FW.region rfl ?_
  refine FWl.val 15 rfl rfl (Value.int .i64 0) _ (r_move) ?_
  have hx42 : ([98, 10] : List Int)[(0 : Int).toNat]? = some 98 := rfl
  obtain ⟨cs43, hr44, hg45⟩ := hs40.at_ _ _ hx42
  obtain rfl := hr44
  refine FWl.val 16 rfl rfl (ptrAt (A.map (·.add (2 * 1))) ((0 : Int).toNat * 1)) _ (r_indexAddr Try.underlying47 Try.sizeOf5 rfl rfl (hs40.isSome (by simp)) (by omega) (by simp)) ?_
  refine FWl.val 17 rfl rfl (Value.int .u8 98) _ (r_loadG1 (i := 0) Try.isAgg5 hg45 rfl rfl hH39) ?_
  refine FWl.val 5 rfl rfl (Value.int .i64 0) _ (r_assign) ?_
  refine FWl.val 6 rfl rfl (Value.int .u8 98) _ (r_assign) ?_
  refine FWl.nil (hK29 _ _ ?_)
  clear hK29 K29
  refine FW.seq_k fun K30 hK30 => ?_
  refine FW.region rfl ?_
  refine FWl.val 18 rfl rfl (Value.int .u8 98) _ (r_move) ?_
  refine FWl.val 19 rfl rfl (Value.bool false) _ (r_eql (a := 98) (b := 10) rfl rfl) ?_
  refine FWl.nil (hK30 _ _ ?_)
  clear hK30 K30
  refine FW.cond false rfl (fun h => nomatch h) (fun _ => ?_)
  refine FW.skip (hK28 _ _ ?_)
  clear hK28 K28
  refine FW.region rfl ?_
  refine FWl.val 33 rfl rfl (Value.int .i64 1) _ (r_addE (a := 0) (b := 1) rfl rfl (by decide)) ?_
  refine FWl.val 13 rfl rfl (Value.int .i64 1) _ (r_move) ?_
  refine FWl.nil (thenF_round ?_)
  refine FW.seq_k fun K31 hK31 => ?_
  refine FW.region rfl ?_
  refine FWl.val 14 rfl rfl (Value.bool true) _ (r_lss (a := 1) (b := 2) rfl rfl) ?_
  refine FWl.nil (hK31 _ _ ?_)
  clear hK31 K31
  refine FW.seq_k fun K32 hK32 => ?_
  refine FW.cond true rfl (fun _ => ?_) (fun h => nomatch h)
  refine FW.skip (hK32 _ _ ?_)
  clear hK32 K32
  refine FW.seq_k fun K33 hK33 => ?_
  refine FW.block ?_
  refine FW.seq_k fun K34 hK34 => ?_
  refine FW.region rfl ?_
  refine FWl.val 15 rfl rfl (Value.int .i64 1) _ (r_move) ?_
  have hx47 : ([98, 10] : List Int)[(1 : Int).toNat]? = some 10 := rfl
  obtain ⟨cs48, hr49, hg50⟩ := hs40.at_ _ _ hx47
  obtain rfl := hr49
  refine FWl.val 16 rfl rfl (ptrAt (A.map (·.add (2 * 1))) ((1 : Int).toNat * 1)) _ (r_indexAddr Try.underlying47 Try.sizeOf5 rfl rfl (hs40.isSome (by simp)) (by omega) (by simp)) ?_
  refine FWl.val 17 rfl rfl (Value.int .u8 10) _ (r_loadG1 (i := 0) Try.isAgg5 hg50 rfl rfl hH39) ?_
  refine FWl.val 5 rfl rfl (Value.int .i64 1) _ (r_assign) ?_
  refine FWl.val 6 rfl rfl (Value.int .u8 10) _ (r_assign) ?_
  refine FWl.nil (hK34 _ _ ?_)
  clear hK34 K34
  refine FW.seq_k fun K35 hK35 => ?_
  refine FW.region rfl ?_
  refine FWl.val 18 rfl rfl (Value.int .u8 10) _ (r_move) ?_
  refine FWl.val 19 rfl rfl (Value.bool true) _ (r_eql (a := 10) (b := 10) rfl rfl) ?_
  refine FWl.nil (hK35 _ _ ?_)
  clear hK35 K35
  refine FW.cond true rfl (fun _ => ?_) (fun h => nomatch h)
  refine FW.seq_k fun K36 hK36 => ?_
  refine FW.region rfl ?_
  refine FWl.val 20 rfl rfl (Value.slice A24 (([(⟨(⟨#[97]⟩ : ByteArray), false⟩ : Line)]).length) c25) _ (r_move) ?_
  refine FWl.val 21 rfl rfl (Value.slice (A.map (·.add (2 * 1))) (([98, 10]).length) 2) _ (r_move) ?_
  refine FWl.val 22 rfl rfl (Value.int .i64 1) _ (r_move) ?_
  refine FWl.val 23 rfl rfl (Value.int .i64 1) _ (r_move) ?_
  have hs51 : Sl (kInt .u8) C27 (A.map (·.add (2 * 1))) 1 ([98]) := hs40.take 1 (by decide)
  refine FWl.val 24 rfl rfl (Value.slice (A.map (·.add (2 * 1))) (([98]).length) 1) _ (r_sliceHM (n := 2) (c := 2) (h := 1) (m := 1) Try.underlying47 Try.sizeOf5 rfl rfl rfl (by decide) (by decide) (by decide)) ?_
  refine FWl.val 25 rfl rfl (Value.string (⟨#[98]⟩ : ByteArray)) _ (r_bytesStr (l := [98]) (r := (⟨#[98]⟩ : ByteArray)) Try.underlying47 Try.underlying5 Try.underlying9 hs51 rfl rfl (by decide) hH39 rfl) ?_
  refine FWl.val 26 rfl rfl (Value.agg #[Value.string (⟨#[98]⟩ : ByteArray), Value.bool false]) _ (r_build (by kernel_rfl)) ?_
  refine FWl.lit (K := kLine) (xs := [(⟨(⟨#[98]⟩ : ByteArray), false⟩ : Line)]) (cs := [Value.string (⟨#[98]⟩ : ByteArray), Value.bool false]) rfl rfl rfl Try.underlying22 info43 zero43 rfl (by kernel_rfl) (.cons (cs := [Value.string (⟨#[98]⟩ : ByteArray), Value.bool false]) (kLine_mk) .nil) rfl hH39 ?_
  intro A52 w53 C54 hs55 e56 hcg57
  have hE_58 := hE_32.step e56
  have ow29_59 := ow29.call e56
  have hs28_66 := hs28.mono e56.le
  have hH71 := e56.has
  refine FWl.app (K := kLine) (B := w.heap.size) (xs := [(⟨(⟨#[97]⟩ : ByteArray), false⟩ : Line)]) (ys := [(⟨(⟨#[98]⟩ : ByteArray), false⟩ : Line)]) (sz := 2) (bytes := 24) rfl rfl rfl Try.underlying22 info43 zero43 rfl rfl rfl rfl rfl rfl rfl hs28_66 ow29_59 hs55 hH71 hE_58.size (by simp only [List.length_cons, List.length_nil]; omega) (by simp only [List.length_cons, List.length_nil]; omega) ?_
  intro A72 c73 w74 C75 hs76 ow77 e78 ap79
  have hE_80 := hE_58.trans e78
  refine FWl.val 3 rfl rfl (Value.slice A72 (([(⟨(⟨#[97]⟩ : ByteArray), false⟩ : Line), (⟨(⟨#[98]⟩ : ByteArray), false⟩ : Line)]).length) c73) _ (r_assign) ?_
  refine FWl.nil (hK36 _ _ ?_)
  clear hK36 K36
  refine FW.seq_k fun K37 hK37 => ?_
  refine FW.region rfl ?_
  refine FWl.val 29 rfl rfl (Value.slice (A.map (·.add (2 * 1))) (([98, 10]).length) 2) _ (r_move) ?_
  refine FWl.val 30 rfl rfl (Value.int .i64 1) _ (r_move) ?_
  refine FWl.val 31 rfl rfl (Value.int .i64 2) _ (r_addE (a := 1) (b := 1) rfl rfl (by decide)) ?_
  have hs95 : Sl (kInt .u8) C75 (A.map (·.add (2 * 1))) 0 [] := Sl.nil _ _ _ _
  refine FWl.val 32 rfl rfl (Value.slice (A.map (·.add (2 * 1))) 0 0) _ (r_sliceL (n := 2) (c := 2) (l := 2) Try.underlying47 Try.sizeOf5 rfl rfl (by decide) (by decide)) ?_
  refine FWl.val 4 rfl rfl (Value.slice (A.map (·.add (2 * 1))) 0 0) _ (r_assign) ?_
  refine FWl.nil (hK37 _ _ ?_)
  clear hK37 K37
  refine FW.exit (inBlockF_miss rfl (thenF_exit (thenF_exit (inBlockF_miss rfl (thenF_exit (inBlockF_hit (thenF_round ?_)))))))
  refine FW.seq_k fun K38 hK38 => ?_
  refine FW.seq_k fun K39 hK39 => ?_
  refine FW.region rfl ?_
  refine FWl.val 8 rfl rfl (Value.slice (A.map (·.add (2 * 1))) 0 0) _ (r_move) ?_
  refine FWl.val 9 rfl rfl (Value.int .i64 0) _ (r_lenSl Try.underlying47 rfl) ?_
  refine FWl.val 10 rfl rfl (Value.bool false) _ (r_gtr (a := 0) (b := 0) rfl rfl) ?_
  refine FWl.nil (hK39 _ _ ?_)
  clear hK39 K39
  refine FW.cond false rfl (fun h => nomatch h) (fun _ => ?_)
  refine FW.exit (thenF_exit (thenF_exit (inBlockF_hit (hK5 _ _ ?_))))
  clear hK5 K5 hK8 K8 hK17 K17 hK24 K24 hK33 K33 hK38 K38
  refine FW.seq_k fun K40 hK40 => ?_
  refine FW.region rfl ?_
  refine FWl.val 40 rfl rfl (Value.slice A72 (([(⟨(⟨#[97]⟩ : ByteArray), false⟩ : Line), (⟨(⟨#[98]⟩ : ByteArray), false⟩ : Line)]).length) c73) _ (r_move) ?_
  refine FWl.val 2 rfl rfl (Value.slice A72 (([(⟨(⟨#[97]⟩ : ByteArray), false⟩ : Line), (⟨(⟨#[98]⟩ : ByteArray), false⟩ : Line)]).length) c73) _ (r_assign) ?_
  refine FWl.nil (hK40 _ _ ?_)
  clear hK40 K40
  refine FW.ret (noGotoF_ret (?_))
  refine ret_tmp (v := Value.slice A72 (([(⟨(⟨#[97]⟩ : ByteArray), false⟩ : Line), (⟨(⟨#[98]⟩ : ByteArray), false⟩ : Line)]).length) c73) Try.results15 (.inl rfl) rfl ?_
  exact ⟨C75, A72, c73, rfl, hE_80, hs76⟩

theorem Lines_c {A : Option Addr} {w : World} {C : Gh} (hH : Has w C) (hb : Sl (kInt .u8) C A 4 [97, 10, 99, 10]) : Ret Try.prog 15 #[Value.slice A (([97, 10, 99, 10]).length) 4] w fun v w' => ∃ (C' : Gh) (A' : Option Addr) (c' : Nat), v = Value.slice A' (([(⟨(⟨#[97]⟩ : ByteArray), false⟩ : Line), (⟨(⟨#[99]⟩ : ByteArray), false⟩ : Line)]).length) c' ∧ Ext w.heap.size w C w' C' ∧ Sl kLine C' A' c' [(⟨(⟨#[97]⟩ : ByteArray), false⟩ : Line), (⟨(⟨#[99]⟩ : ByteArray), false⟩ : Line)] := by
  refine Ret.of Try.func15 rfl Try.ntmps15 rfl ?_
  have hE := Ext.refl (B := w.heap.size) hH
  have bd_hb := hb.bd
  refine FW.seq_k fun K1 hK1 => ?_
  refine FW.region rfl ?_
  refine FWl.val 2 rfl rfl (Value.slice none 0 0) _ (r_assign) ?_
  refine FWl.nil (hK1 _ _ ?_)
  clear hK1 K1
  refine FW.scope ?_
  refine FW.seq_k fun K2 hK2 => ?_
  refine FW.region rfl ?_
  refine FWl.val 3 rfl rfl (Value.slice none 0 0) _ (r_assign) ?_
  refine FWl.nil (hK2 _ _ ?_)
  clear hK2 K2
  refine FW.seq_k fun K3 hK3 => ?_
  refine FW.region rfl ?_
  refine FWl.val 7 rfl rfl (Value.slice A (([97, 10, 99, 10]).length) 4) _ (r_move) ?_
  refine FWl.val 4 rfl rfl (Value.slice A (([97, 10, 99, 10]).length) 4) _ (r_assign) ?_
  refine FWl.nil (hK3 _ _ ?_)
  clear hK3 K3
  refine FW.seq_k fun K4 hK4 => ?_
  refine FW.label (hK4 _ _ ?_)
  clear hK4 K4
  refine FW.seq_k fun K5 hK5 => ?_
  refine FW.block ?_
  refine FW.loop_in (FWL.unroll ?_)
  refine FW.seq_k fun K6 hK6 => ?_
  refine FW.seq_k fun K7 hK7 => ?_
  refine FW.region rfl ?_
  refine FWl.val 8 rfl rfl (Value.slice A (([97, 10, 99, 10]).length) 4) _ (r_move) ?_
  refine FWl.val 9 rfl rfl (Value.int .i64 4) _ (r_lenSl Try.underlying47 rfl) ?_
  refine FWl.val 10 rfl rfl (Value.bool true) _ (r_gtr (a := 4) (b := 0) rfl rfl) ?_
  refine FWl.nil (hK7 _ _ ?_)
  clear hK7 K7
  refine FW.cond true rfl (fun _ => ?_) (fun h => nomatch h)
  refine FW.skip (hK6 _ _ ?_)
  clear hK6 K6
  refine FW.block ?_
  refine FW.seq_k fun K8 hK8 => ?_
  refine FW.seq_k fun K9 hK9 => ?_
  refine FW.region rfl ?_
  refine FWl.val 11 rfl rfl (Value.slice A (([97, 10, 99, 10]).length) 4) _ (r_move) ?_
  refine FWl.val 12 rfl rfl (Value.int .i64 4) _ (r_lenSl Try.underlying47 rfl) ?_
  refine FWl.val 13 rfl rfl (Value.int .i64 0) _ (r_move) ?_
  refine FWl.nil (hK9 _ _ ?_)
  clear hK9 K9
  refine FW.block ?_
  refine FW.loop_in (FWL.unroll ?_)
  refine FW.seq_k fun K10 hK10 => ?_
  refine FW.region rfl ?_
  refine FWl.val 14 rfl rfl (Value.bool true) _ (r_lss (a := 0) (b := 4) rfl rfl) ?_
  refine FWl.nil (hK10 _ _ ?_)
  clear hK10 K10
  refine FW.seq_k fun K11 hK11 => ?_
  refine FW.cond true rfl (fun _ => ?_) (fun h => nomatch h)
  refine FW.skip (hK11 _ _ ?_)
  clear hK11 K11
  refine FW.seq_k fun K12 hK12 => ?_
  refine FW.block ?_
  refine FW.seq_k fun K13 hK13 => ?_
  refine FW.region rfl ?_
  refine FWl.val 15 rfl rfl (Value.int .i64 0) _ (r_move) ?_
  have hx2 : ([97, 10, 99, 10] : List Int)[(0 : Int).toNat]? = some 97 := rfl
  obtain ⟨cs3, hr4, hg5⟩ := hb.at_ _ _ hx2
  obtain rfl := hr4
  refine FWl.val 16 rfl rfl (ptrAt A ((0 : Int).toNat * 1)) _ (r_indexAddr Try.underlying47 Try.sizeOf5 rfl rfl (hb.isSome (by simp)) (by omega) (by simp)) ?_
  refine FWl.val 17 rfl rfl (Value.int .u8 97) _ (r_loadG1 (i := 0) Try.isAgg5 hg5 rfl rfl hH) ?_
  refine FWl.val 5 rfl rfl (Value.int .i64 0) _ (r_assign) ?_
  refine FWl.val 6 rfl rfl (Value.int .u8 97) _ (r_assign) ?_
  refine FWl.nil (hK13 _ _ ?_)
  clear hK13 K13
  refine FW.seq_k fun K14 hK14 => ?_
  refine FW.region rfl ?_
  refine FWl.val 18 rfl rfl (Value.int .u8 97) _ (r_move) ?_
  refine FWl.val 19 rfl rfl (Value.bool false) _ (r_eql (a := 97) (b := 10) rfl rfl) ?_
  refine FWl.nil (hK14 _ _ ?_)
  clear hK14 K14
  refine FW.cond false rfl (fun h => nomatch h) (fun _ => ?_)
  refine FW.skip (hK12 _ _ ?_)
  clear hK12 K12
  refine FW.region rfl ?_
  refine FWl.val 33 rfl rfl (Value.int .i64 1) _ (r_addE (a := 0) (b := 1) rfl rfl (by decide)) ?_
  refine FWl.val 13 rfl rfl (Value.int .i64 1) _ (r_move) ?_
  refine FWl.nil (thenF_round ?_)
  refine FW.seq_k fun K15 hK15 => ?_
  refine FW.region rfl ?_
  refine FWl.val 14 rfl rfl (Value.bool true) _ (r_lss (a := 1) (b := 4) rfl rfl) ?_
  refine FWl.nil (hK15 _ _ ?_)
  clear hK15 K15
  refine FW.seq_k fun K16 hK16 => ?_
  refine FW.cond true rfl (fun _ => ?_) (fun h => nomatch h)
  refine FW.skip (hK16 _ _ ?_)
  clear hK16 K16
  refine FW.seq_k fun K17 hK17 => ?_
  refine FW.block ?_
  refine FW.seq_k fun K18 hK18 => ?_
  refine FW.region rfl ?_
  refine FWl.val 15 rfl rfl (Value.int .i64 1) _ (r_move) ?_
  have hx7 : ([97, 10, 99, 10] : List Int)[(1 : Int).toNat]? = some 10 := rfl
  obtain ⟨cs8, hr9, hg10⟩ := hb.at_ _ _ hx7
  obtain rfl := hr9
  refine FWl.val 16 rfl rfl (ptrAt A ((1 : Int).toNat * 1)) _ (r_indexAddr Try.underlying47 Try.sizeOf5 rfl rfl (hb.isSome (by simp)) (by omega) (by simp)) ?_
  refine FWl.val 17 rfl rfl (Value.int .u8 10) _ (r_loadG1 (i := 0) Try.isAgg5 hg10 rfl rfl hH) ?_
  refine FWl.val 5 rfl rfl (Value.int .i64 1) _ (r_assign) ?_
  refine FWl.val 6 rfl rfl (Value.int .u8 10) _ (r_assign) ?_
  refine FWl.nil (hK18 _ _ ?_)
  clear hK18 K18
  refine FW.seq_k fun K19 hK19 => ?_
  refine FW.region rfl ?_
  refine FWl.val 18 rfl rfl (Value.int .u8 10) _ (r_move) ?_
  refine FWl.val 19 rfl rfl (Value.bool true) _ (r_eql (a := 10) (b := 10) rfl rfl) ?_
  refine FWl.nil (hK19 _ _ ?_)
  clear hK19 K19
  refine FW.cond true rfl (fun _ => ?_) (fun h => nomatch h)
  refine FW.seq_k fun K20 hK20 => ?_
  refine FW.region rfl ?_
  refine FWl.val 20 rfl rfl (Value.slice none 0 0) _ (r_move) ?_
  refine FWl.val 21 rfl rfl (Value.slice A (([97, 10, 99, 10]).length) 4) _ (r_move) ?_
  refine FWl.val 22 rfl rfl (Value.int .i64 1) _ (r_move) ?_
  refine FWl.val 23 rfl rfl (Value.int .i64 1) _ (r_move) ?_
  have hs11 : Sl (kInt .u8) C A 1 ([97]) := hb.take 1 (by decide)
  refine FWl.val 24 rfl rfl (Value.slice A (([97]).length) 1) _ (r_sliceHM (n := 4) (c := 4) (h := 1) (m := 1) Try.underlying47 Try.sizeOf5 rfl rfl rfl (by decide) (by decide) (by decide)) ?_
  refine FWl.val 25 rfl rfl (Value.string (⟨#[97]⟩ : ByteArray)) _ (r_bytesStr (l := [97]) (r := (⟨#[97]⟩ : ByteArray)) Try.underlying47 Try.underlying5 Try.underlying9 hs11 rfl rfl (by decide) hH rfl) ?_
  refine FWl.val 26 rfl rfl (Value.agg #[Value.string (⟨#[97]⟩ : ByteArray), Value.bool false]) _ (r_build (by kernel_rfl)) ?_
  refine FWl.lit (K := kLine) (xs := [(⟨(⟨#[97]⟩ : ByteArray), false⟩ : Line)]) (cs := [Value.string (⟨#[97]⟩ : ByteArray), Value.bool false]) rfl rfl rfl Try.underlying22 info43 zero43 rfl (by kernel_rfl) (.cons (cs := [Value.string (⟨#[97]⟩ : ByteArray), Value.bool false]) (kLine_mk) .nil) rfl hH ?_
  intro A12 w13 C14 hs15 e16 hcg17
  have hE_18 := hE.step e16
  have hb_19 := hb.mono e16.le
  have hH23 := e16.has
  refine FWl.app (K := kLine) (B := w.heap.size) (xs := []) (ys := [(⟨(⟨#[97]⟩ : ByteArray), false⟩ : Line)]) (sz := 2) (bytes := 24) rfl rfl rfl Try.underlying22 info43 zero43 rfl rfl rfl rfl rfl rfl rfl (Sl.nil kLine _ _ _) Own.full hs15 hH23 hE_18.size (by simp only [List.length_cons, List.length_nil]; omega) (by simp only [List.length_cons, List.length_nil]; omega) ?_
  intro A24 c25 w26 C27 hs28 ow29 e30 ap31
  have hE_32 := hE_18.trans e30
  have hb_33 := hb_19.mono e30.le
  have hH39 := e30.has
  refine FWl.val 3 rfl rfl (Value.slice A24 (([(⟨(⟨#[97]⟩ : ByteArray), false⟩ : Line)]).length) c25) _ (r_assign) ?_
  refine FWl.nil (hK20 _ _ ?_)
  clear hK20 K20
  refine FW.seq_k fun K21 hK21 => ?_
  refine FW.region rfl ?_
  refine FWl.val 29 rfl rfl (Value.slice A (([97, 10, 99, 10]).length) 4) _ (r_move) ?_
  refine FWl.val 30 rfl rfl (Value.int .i64 1) _ (r_move) ?_
  refine FWl.val 31 rfl rfl (Value.int .i64 2) _ (r_addE (a := 1) (b := 1) rfl rfl (by decide)) ?_
  have hs40 : Sl (kInt .u8) C27 (A.map (·.add (2 * 1))) 2 ([99, 10]) := hb_33.drop 2 (by decide)
  refine FWl.val 32 rfl rfl (Value.slice (A.map (·.add (2 * 1))) (([99, 10]).length) 2) _ (r_sliceL (n := 4) (c := 4) (l := 2) Try.underlying47 Try.sizeOf5 rfl rfl (by decide) (by decide)) ?_
  refine FWl.val 4 rfl rfl (Value.slice (A.map (·.add (2 * 1))) (([99, 10]).length) 2) _ (r_assign) ?_
  refine FWl.nil (hK21 _ _ ?_)
  clear hK21 K21
  refine FW.exit (inBlockF_miss rfl (thenF_exit (thenF_exit (inBlockF_miss rfl (thenF_exit (inBlockF_hit (thenF_round ?_)))))))
  refine FW.seq_k fun K22 hK22 => ?_
  refine FW.seq_k fun K23 hK23 => ?_
  refine FW.region rfl ?_
  refine FWl.val 8 rfl rfl (Value.slice (A.map (·.add (2 * 1))) (([99, 10]).length) 2) _ (r_move) ?_
  refine FWl.val 9 rfl rfl (Value.int .i64 2) _ (r_lenSl Try.underlying47 rfl) ?_
  refine FWl.val 10 rfl rfl (Value.bool true) _ (r_gtr (a := 2) (b := 0) rfl rfl) ?_
  refine FWl.nil (hK23 _ _ ?_)
  clear hK23 K23
  refine FW.cond true rfl (fun _ => ?_) (fun h => nomatch h)
  refine FW.skip (hK22 _ _ ?_)
  clear hK22 K22
  refine FW.block ?_
  refine FW.seq_k fun K24 hK24 => ?_
  refine FW.seq_k fun K25 hK25 => ?_
  refine FW.region rfl ?_
  refine FWl.val 11 rfl rfl (Value.slice (A.map (·.add (2 * 1))) (([99, 10]).length) 2) _ (r_move) ?_
  refine FWl.val 12 rfl rfl (Value.int .i64 2) _ (r_lenSl Try.underlying47 rfl) ?_
  refine FWl.val 13 rfl rfl (Value.int .i64 0) _ (r_move) ?_
  refine FWl.nil (hK25 _ _ ?_)
  clear hK25 K25
  refine FW.block ?_
  refine FW.loop_in (FWL.unroll ?_)
  refine FW.seq_k fun K26 hK26 => ?_
  refine FW.region rfl ?_
  refine FWl.val 14 rfl rfl (Value.bool true) _ (r_lss (a := 0) (b := 2) rfl rfl) ?_
  refine FWl.nil (hK26 _ _ ?_)
  clear hK26 K26
  refine FW.seq_k fun K27 hK27 => ?_
  refine FW.cond true rfl (fun _ => ?_) (fun h => nomatch h)
  refine FW.skip (hK27 _ _ ?_)
  clear hK27 K27
  refine FW.seq_k fun K28 hK28 => ?_
  refine FW.block ?_
  refine FW.seq_k fun K29 hK29 => ?_
  refine FW.region rfl ?_
  refine FWl.val 15 rfl rfl (Value.int .i64 0) _ (r_move) ?_
  have hx42 : ([99, 10] : List Int)[(0 : Int).toNat]? = some 99 := rfl
  obtain ⟨cs43, hr44, hg45⟩ := hs40.at_ _ _ hx42
  obtain rfl := hr44
  refine FWl.val 16 rfl rfl (ptrAt (A.map (·.add (2 * 1))) ((0 : Int).toNat * 1)) _ (r_indexAddr Try.underlying47 Try.sizeOf5 rfl rfl (hs40.isSome (by simp)) (by omega) (by simp)) ?_
  refine FWl.val 17 rfl rfl (Value.int .u8 99) _ (r_loadG1 (i := 0) Try.isAgg5 hg45 rfl rfl hH39) ?_
  refine FWl.val 5 rfl rfl (Value.int .i64 0) _ (r_assign) ?_
  refine FWl.val 6 rfl rfl (Value.int .u8 99) _ (r_assign) ?_
  refine FWl.nil (hK29 _ _ ?_)
  clear hK29 K29
  refine FW.seq_k fun K30 hK30 => ?_
  refine FW.region rfl ?_
  refine FWl.val 18 rfl rfl (Value.int .u8 99) _ (r_move) ?_
  refine FWl.val 19 rfl rfl (Value.bool false) _ (r_eql (a := 99) (b := 10) rfl rfl) ?_
  refine FWl.nil (hK30 _ _ ?_)
  clear hK30 K30
  refine FW.cond false rfl (fun h => nomatch h) (fun _ => ?_)
  refine FW.skip (hK28 _ _ ?_)
  clear hK28 K28
  refine FW.region rfl ?_
  refine FWl.val 33 rfl rfl (Value.int .i64 1) _ (r_addE (a := 0) (b := 1) rfl rfl (by decide)) ?_
  refine FWl.val 13 rfl rfl (Value.int .i64 1) _ (r_move) ?_
  refine FWl.nil (thenF_round ?_)
  refine FW.seq_k fun K31 hK31 => ?_
  refine FW.region rfl ?_
  refine FWl.val 14 rfl rfl (Value.bool true) _ (r_lss (a := 1) (b := 2) rfl rfl) ?_
  refine FWl.nil (hK31 _ _ ?_)
  clear hK31 K31
  refine FW.seq_k fun K32 hK32 => ?_
  refine FW.cond true rfl (fun _ => ?_) (fun h => nomatch h)
  refine FW.skip (hK32 _ _ ?_)
  clear hK32 K32
  refine FW.seq_k fun K33 hK33 => ?_
  refine FW.block ?_
  refine FW.seq_k fun K34 hK34 => ?_
  refine FW.region rfl ?_
  refine FWl.val 15 rfl rfl (Value.int .i64 1) _ (r_move) ?_
  have hx47 : ([99, 10] : List Int)[(1 : Int).toNat]? = some 10 := rfl
  obtain ⟨cs48, hr49, hg50⟩ := hs40.at_ _ _ hx47
  obtain rfl := hr49
  refine FWl.val 16 rfl rfl (ptrAt (A.map (·.add (2 * 1))) ((1 : Int).toNat * 1)) _ (r_indexAddr Try.underlying47 Try.sizeOf5 rfl rfl (hs40.isSome (by simp)) (by omega) (by simp)) ?_
  refine FWl.val 17 rfl rfl (Value.int .u8 10) _ (r_loadG1 (i := 0) Try.isAgg5 hg50 rfl rfl hH39) ?_
  refine FWl.val 5 rfl rfl (Value.int .i64 1) _ (r_assign) ?_
  refine FWl.val 6 rfl rfl (Value.int .u8 10) _ (r_assign) ?_
  refine FWl.nil (hK34 _ _ ?_)
  clear hK34 K34
  refine FW.seq_k fun K35 hK35 => ?_
  refine FW.region rfl ?_
  refine FWl.val 18 rfl rfl (Value.int .u8 10) _ (r_move) ?_
  refine FWl.val 19 rfl rfl (Value.bool true) _ (r_eql (a := 10) (b := 10) rfl rfl) ?_
  refine FWl.nil (hK35 _ _ ?_)
  clear hK35 K35
  refine FW.cond true rfl (fun _ => ?_) (fun h => nomatch h)
  refine FW.seq_k fun K36 hK36 => ?_
  refine FW.region rfl ?_
  refine FWl.val 20 rfl rfl (Value.slice A24 (([(⟨(⟨#[97]⟩ : ByteArray), false⟩ : Line)]).length) c25) _ (r_move) ?_
  refine FWl.val 21 rfl rfl (Value.slice (A.map (·.add (2 * 1))) (([99, 10]).length) 2) _ (r_move) ?_
  refine FWl.val 22 rfl rfl (Value.int .i64 1) _ (r_move) ?_
  refine FWl.val 23 rfl rfl (Value.int .i64 1) _ (r_move) ?_
  have hs51 : Sl (kInt .u8) C27 (A.map (·.add (2 * 1))) 1 ([99]) := hs40.take 1 (by decide)
  refine FWl.val 24 rfl rfl (Value.slice (A.map (·.add (2 * 1))) (([99]).length) 1) _ (r_sliceHM (n := 2) (c := 2) (h := 1) (m := 1) Try.underlying47 Try.sizeOf5 rfl rfl rfl (by decide) (by decide) (by decide)) ?_
  refine FWl.val 25 rfl rfl (Value.string (⟨#[99]⟩ : ByteArray)) _ (r_bytesStr (l := [99]) (r := (⟨#[99]⟩ : ByteArray)) Try.underlying47 Try.underlying5 Try.underlying9 hs51 rfl rfl (by decide) hH39 rfl) ?_
  refine FWl.val 26 rfl rfl (Value.agg #[Value.string (⟨#[99]⟩ : ByteArray), Value.bool false]) _ (r_build (by kernel_rfl)) ?_
  refine FWl.lit (K := kLine) (xs := [(⟨(⟨#[99]⟩ : ByteArray), false⟩ : Line)]) (cs := [Value.string (⟨#[99]⟩ : ByteArray), Value.bool false]) rfl rfl rfl Try.underlying22 info43 zero43 rfl (by kernel_rfl) (.cons (cs := [Value.string (⟨#[99]⟩ : ByteArray), Value.bool false]) (kLine_mk) .nil) rfl hH39 ?_
  intro A52 w53 C54 hs55 e56 hcg57
  have hE_58 := hE_32.step e56
  have ow29_59 := ow29.call e56
  have hs28_66 := hs28.mono e56.le
  have hH71 := e56.has
  refine FWl.app (K := kLine) (B := w.heap.size) (xs := [(⟨(⟨#[97]⟩ : ByteArray), false⟩ : Line)]) (ys := [(⟨(⟨#[99]⟩ : ByteArray), false⟩ : Line)]) (sz := 2) (bytes := 24) rfl rfl rfl Try.underlying22 info43 zero43 rfl rfl rfl rfl rfl rfl rfl hs28_66 ow29_59 hs55 hH71 hE_58.size (by simp only [List.length_cons, List.length_nil]; omega) (by simp only [List.length_cons, List.length_nil]; omega) ?_
  intro A72 c73 w74 C75 hs76 ow77 e78 ap79
  have hE_80 := hE_58.trans e78
  refine FWl.val 3 rfl rfl (Value.slice A72 (([(⟨(⟨#[97]⟩ : ByteArray), false⟩ : Line), (⟨(⟨#[99]⟩ : ByteArray), false⟩ : Line)]).length) c73) _ (r_assign) ?_
  refine FWl.nil (hK36 _ _ ?_)
  clear hK36 K36
  refine FW.seq_k fun K37 hK37 => ?_
  refine FW.region rfl ?_
  refine FWl.val 29 rfl rfl (Value.slice (A.map (·.add (2 * 1))) (([99, 10]).length) 2) _ (r_move) ?_
  refine FWl.val 30 rfl rfl (Value.int .i64 1) _ (r_move) ?_
  refine FWl.val 31 rfl rfl (Value.int .i64 2) _ (r_addE (a := 1) (b := 1) rfl rfl (by decide)) ?_
  have hs95 : Sl (kInt .u8) C75 (A.map (·.add (2 * 1))) 0 [] := Sl.nil _ _ _ _
  refine FWl.val 32 rfl rfl (Value.slice (A.map (·.add (2 * 1))) 0 0) _ (r_sliceL (n := 2) (c := 2) (l := 2) Try.underlying47 Try.sizeOf5 rfl rfl (by decide) (by decide)) ?_
  refine FWl.val 4 rfl rfl (Value.slice (A.map (·.add (2 * 1))) 0 0) _ (r_assign) ?_
  refine FWl.nil (hK37 _ _ ?_)
  clear hK37 K37
  refine FW.exit (inBlockF_miss rfl (thenF_exit (thenF_exit (inBlockF_miss rfl (thenF_exit (inBlockF_hit (thenF_round ?_)))))))
  refine FW.seq_k fun K38 hK38 => ?_
  refine FW.seq_k fun K39 hK39 => ?_
  refine FW.region rfl ?_
  refine FWl.val 8 rfl rfl (Value.slice (A.map (·.add (2 * 1))) 0 0) _ (r_move) ?_
  refine FWl.val 9 rfl rfl (Value.int .i64 0) _ (r_lenSl Try.underlying47 rfl) ?_
  refine FWl.val 10 rfl rfl (Value.bool false) _ (r_gtr (a := 0) (b := 0) rfl rfl) ?_
  refine FWl.nil (hK39 _ _ ?_)
  clear hK39 K39
  refine FW.cond false rfl (fun h => nomatch h) (fun _ => ?_)
  refine FW.exit (thenF_exit (thenF_exit (inBlockF_hit (hK5 _ _ ?_))))
  clear hK5 K5 hK8 K8 hK17 K17 hK24 K24 hK33 K33 hK38 K38
  refine FW.seq_k fun K40 hK40 => ?_
  refine FW.region rfl ?_
  refine FWl.val 40 rfl rfl (Value.slice A72 (([(⟨(⟨#[97]⟩ : ByteArray), false⟩ : Line), (⟨(⟨#[99]⟩ : ByteArray), false⟩ : Line)]).length) c73) _ (r_move) ?_
  refine FWl.val 2 rfl rfl (Value.slice A72 (([(⟨(⟨#[97]⟩ : ByteArray), false⟩ : Line), (⟨(⟨#[99]⟩ : ByteArray), false⟩ : Line)]).length) c73) _ (r_assign) ?_
  refine FWl.nil (hK40 _ _ ?_)
  clear hK40 K40
  refine FW.ret (noGotoF_ret (?_))
  refine ret_tmp (v := Value.slice A72 (([(⟨(⟨#[97]⟩ : ByteArray), false⟩ : Line), (⟨(⟨#[99]⟩ : ByteArray), false⟩ : Line)]).length) c73) Try.results15 (.inl rfl) rfl ?_
  exact ⟨C75, A72, c73, rfl, hE_80, hs76⟩

theorem Build_1 {A : Option Addr} {c : Nat} {w : World} {C : Gh} (hH : Has w C) (hs : Sl kEdit C A c [(⟨1, [(⟨(⟨#[97]⟩ : ByteArray), false⟩ : Line)]⟩ : Edit), (⟨2, [(⟨(⟨#[98]⟩ : ByteArray), false⟩ : Line)]⟩ : Edit), (⟨3, [(⟨(⟨#[99]⟩ : ByteArray), false⟩ : Line)]⟩ : Edit)]) : Ret Try.prog 16 #[Value.slice A (([(⟨1, [(⟨(⟨#[97]⟩ : ByteArray), false⟩ : Line)]⟩ : Edit), (⟨2, [(⟨(⟨#[98]⟩ : ByteArray), false⟩ : Line)]⟩ : Edit), (⟨3, [(⟨(⟨#[99]⟩ : ByteArray), false⟩ : Line)]⟩ : Edit)]).length) c, Value.int .i64 0] w fun v w' => ∃ (C' : Gh) (A' : Option Addr) (c' : Nat), v = Value.tuple #[Value.slice A' (([(⟨1, 1, 1, 1, [(⟨2, [(⟨(⟨#[98]⟩ : ByteArray), false⟩ : Line)]⟩ : Edit), (⟨3, [(⟨(⟨#[99]⟩ : ByteArray), false⟩ : Line)]⟩ : Edit)]⟩ : Hunk)]).length) c', Value.int .i64 0] ∧ Ext w.heap.size w C w' C' ∧ Sl kHunk C' A' c' [(⟨1, 1, 1, 1, [(⟨2, [(⟨(⟨#[98]⟩ : ByteArray), false⟩ : Line)]⟩ : Edit), (⟨3, [(⟨(⟨#[99]⟩ : ByteArray), false⟩ : Line)]⟩ : Edit)]⟩ : Hunk)] := by
  refine Ret.of Try.func16 rfl Try.ntmps16 rfl ?_
  have hE := Ext.refl (B := w.heap.size) hH
  have bd_hs := hs.bd
  refine FW.seq_k fun K1 hK1 => ?_
  refine FW.region rfl ?_
  refine FWl.val 4 rfl rfl (Value.slice none 0 0) _ (r_assign) ?_
  refine FWl.val 5 rfl rfl (Value.int .i64 0) _ (r_assign) ?_
  refine FWl.nil (hK1 _ _ ?_)
  clear hK1 K1
  refine FW.seq_k fun K2 hK2 => ?_
  refine FW.region rfl ?_
  refine FWl.val 12 rfl rfl (Value.slice A (([(⟨1, [(⟨(⟨#[97]⟩ : ByteArray), false⟩ : Line)]⟩ : Edit), (⟨2, [(⟨(⟨#[98]⟩ : ByteArray), false⟩ : Line)]⟩ : Edit), (⟨3, [(⟨(⟨#[99]⟩ : ByteArray), false⟩ : Line)]⟩ : Edit)]).length) c) _ (r_move) ?_
  refine FWl.call 13 rfl rfl 27 #[Value.slice A (([(⟨1, [(⟨(⟨#[97]⟩ : ByteArray), false⟩ : Line)]⟩ : Edit), (⟨2, [(⟨(⟨#[98]⟩ : ByteArray), false⟩ : Line)]⟩ : Edit), (⟨3, [(⟨(⟨#[99]⟩ : ByteArray), false⟩ : Line)]⟩ : Edit)]).length) c] (r_call1 Try.call27 rfl rfl) ((Normal_c hH hs ⟨by decide, by decide, by intro x hx; simp at hx; rcases hx with rfl | rfl | rfl <;> decide⟩).mono ?_)
  rintro _ w1 ⟨C2, A4, c5, rfl, e3, h6⟩
  have hE_7 := hE.step e3
  have hH9 := e3.has
  have hs11 : Sl kEdit C2 A4 c5 [(⟨1, [(⟨(⟨#[97]⟩ : ByteArray), false⟩ : Line)]⟩ : Edit), (⟨2, [(⟨(⟨#[98]⟩ : ByteArray), false⟩ : Line)]⟩ : Edit), (⟨3, [(⟨(⟨#[99]⟩ : ByteArray), false⟩ : Line)]⟩ : Edit)] := h6.lit (by rfl)
  refine FWl.val 11 rfl rfl (Value.tuple #[Value.slice A4 (([(⟨1, [(⟨(⟨#[97]⟩ : ByteArray), false⟩ : Line)]⟩ : Edit), (⟨2, [(⟨(⟨#[98]⟩ : ByteArray), false⟩ : Line)]⟩ : Edit), (⟨3, [(⟨(⟨#[99]⟩ : ByteArray), false⟩ : Line)]⟩ : Edit)]).length) c5, Value.int .i64 0]) _ (r_move) ?_
  refine FWl.val 14 rfl rfl (Value.slice A4 (([(⟨1, [(⟨(⟨#[97]⟩ : ByteArray), false⟩ : Line)]⟩ : Edit), (⟨2, [(⟨(⟨#[98]⟩ : ByteArray), false⟩ : Line)]⟩ : Edit), (⟨3, [(⟨(⟨#[99]⟩ : ByteArray), false⟩ : Line)]⟩ : Edit)]).length) c5) _ (r_extract rfl rfl) ?_
  refine FWl.val 15 rfl rfl (Value.int .i64 0) _ (r_extract rfl rfl) ?_
  refine FWl.val 6 rfl rfl (Value.slice A4 (([(⟨1, [(⟨(⟨#[97]⟩ : ByteArray), false⟩ : Line)]⟩ : Edit), (⟨2, [(⟨(⟨#[98]⟩ : ByteArray), false⟩ : Line)]⟩ : Edit), (⟨3, [(⟨(⟨#[99]⟩ : ByteArray), false⟩ : Line)]⟩ : Edit)]).length) c5) _ (r_assign) ?_
  refine FWl.val 7 rfl rfl (Value.int .i64 0) _ (r_assign) ?_
  refine FWl.nil (hK2 _ _ ?_)
  clear hK2 K2
  refine FW.seq_k fun K3 hK3 => ?_
  refine FW.block ?_
  refine FW.seq_k fun K4 hK4 => ?_
  refine FW.region rfl ?_
  refine FWl.val 17 rfl rfl (Value.int .i64 0) _ (r_move) ?_
  refine FWl.val 18 rfl rfl (Value.bool false) _ (r_neq (a := 0) (b := 0) rfl rfl) ?_
  refine FWl.val 16 rfl rfl (Value.bool false) _ (r_assign) ?_
  refine FWl.nil (hK4 _ _ ?_)
  clear hK4 K4
  refine FW.cond false rfl (fun h => nomatch h) (fun _ => ?_)
  refine FW.seq_k fun K5 hK5 => ?_
  refine FW.region rfl ?_
  refine FWl.val 21 rfl rfl (Value.int .i64 0) _ (r_move) ?_
  refine FWl.val 22 rfl rfl (Value.bool false) _ (r_lss (a := 0) (b := 0) rfl rfl) ?_
  refine FWl.val 23 rfl rfl (Value.bool false) _ (r_move) ?_
  refine FWl.val 24 rfl rfl (Value.int .i64 0) _ (r_move) ?_
  refine FWl.val 25 rfl rfl (Value.bool false) _ (r_gtr (a := 0) (b := 20) rfl rfl) ?_
  refine FWl.val 26 rfl rfl (Value.bool false) _ (r_pick (t := false) rfl) ?_
  refine FWl.val 20 rfl rfl (Value.bool false) _ (r_assign) ?_
  refine FWl.nil (hK5 _ _ ?_)
  clear hK5 K5
  refine FW.cond false rfl (fun h => nomatch h) (fun _ => ?_)
  refine FW.skip (hK3 _ _ ?_)
  clear hK3 K3
  refine FW.seq_k fun K6 hK6 => ?_
  refine FW.region rfl ?_
  refine FWl.val 27 rfl rfl (Value.int .i64 0) _ (r_move) ?_
  have hm12 : MRow w.heap.size 82 5 w1 C2 none 0 [] := MRow.nil
  refine FWl.val 28 rfl rfl (Value.agg #[Value.int .i64 0, Value.slice none 0 0, Value.slice none 0 0, Value.int .i64 0, Value.int .i64 0, Value.slice none 0 0]) _ (r_build (by kernel_rfl)) ?_
  refine FWl.box (cs := [Value.int .i64 0, Value.slice none 0 0, Value.slice none 0 0, Value.int .i64 0, Value.int .i64 0, Value.slice none 0 0]) rfl rfl rfl rfl rfl hH9 ?_
  intro g13 w14 st15 e16 hg17
  have hge_st15_hE := Nat.le_trans hE_7.size (Nat.le_of_eq hg17)
  have hE_18 := hE_7.step e16
  have hm12_19 := hm12.call e16
  have hH20 := e16.has
  have hlt_st15 := st15.lt
  refine FWl.val 8 rfl rfl (Value.pointer (some ⟨g13, 0, none⟩)) _ (r_assign) ?_
  refine FWl.nil (hK6 _ _ ?_)
  clear hK6 K6
  refine FW.seq_k fun K7 hK7 => ?_
  refine FW.seq_k fun K8 hK8 => ?_
  refine FW.region rfl ?_
  refine FWl.val 30 rfl rfl (Value.slice A4 (([(⟨1, [(⟨(⟨#[97]⟩ : ByteArray), false⟩ : Line)]⟩ : Edit), (⟨2, [(⟨(⟨#[98]⟩ : ByteArray), false⟩ : Line)]⟩ : Edit), (⟨3, [(⟨(⟨#[99]⟩ : ByteArray), false⟩ : Line)]⟩ : Edit)]).length) c5) _ (r_move) ?_
  refine FWl.val 31 rfl rfl (Value.int .i64 3) _ (r_lenSl Try.underlying26 rfl) ?_
  refine FWl.val 32 rfl rfl (Value.int .i64 0) _ (r_move) ?_
  refine FWl.nil (hK8 _ _ ?_)
  clear hK8 K8
  refine FW.block ?_
  refine FW.loop_in (FWL.unroll ?_)
  refine FW.seq_k fun K9 hK9 => ?_
  refine FW.region rfl ?_
  refine FWl.val 33 rfl rfl (Value.bool true) _ (r_lss (a := 0) (b := 3) rfl rfl) ?_
  refine FWl.nil (hK9 _ _ ?_)
  clear hK9 K9
  refine FW.seq_k fun K10 hK10 => ?_
  refine FW.cond true rfl (fun _ => ?_) (fun h => nomatch h)
  refine FW.skip (hK10 _ _ ?_)
  clear hK10 K10
  refine FW.seq_k fun K11 hK11 => ?_
  refine FW.block ?_
  refine FW.seq_k fun K12 hK12 => ?_
  refine FW.region rfl ?_
  refine FWl.val 34 rfl rfl (Value.int .i64 0) _ (r_move) ?_
  have hx22 : ([(⟨1, [(⟨(⟨#[97]⟩ : ByteArray), false⟩ : Line)]⟩ : Edit), (⟨2, [(⟨(⟨#[98]⟩ : ByteArray), false⟩ : Line)]⟩ : Edit), (⟨3, [(⟨(⟨#[99]⟩ : ByteArray), false⟩ : Line)]⟩ : Edit)] : List Edit)[(0 : Int).toNat]? = some (⟨1, [(⟨(⟨#[97]⟩ : ByteArray), false⟩ : Line)]⟩ : Edit) := rfl
  obtain ⟨cs23, hr24, hg25⟩ := hs11.at_ _ _ hx22
  obtain ⟨A26, c27, rfl, hs28⟩ := hr24
  refine FWl.val 35 rfl rfl (ptrAt A4 ((0 : Int).toNat * 2)) _ (r_indexAddr Try.underlying26 Try.sizeOf57 rfl rfl (hs11.isSome (by simp)) (by omega) (by simp)) ?_
  refine FWl.val 36 rfl rfl (Value.agg #[Value.int .i64 1, Value.slice A26 (([(⟨(⟨#[97]⟩ : ByteArray), false⟩ : Line)]).length) c27]) _ (r_loadGN Try.isAgg57 Try.sizeOf57 hg25 rfl hH20) ?_
  refine FWl.alloc (cs := [Value.int .i64 0, Value.slice none 0 0]) rfl rfl rfl Try.zeroValue57 rfl hH20 ?_
  intro g29 w30 st31 e32 hg33
  have hge_st31_hE := Nat.le_trans hE_18.size (Nat.le_of_eq hg33)
  have hE_34 := hE_18.step e32
  have st15_35 := st15.call e32
  have hm12_36 := hm12_19.call e32
  have hH37 := e32.has
  have hlt_st31 := st31.lt
  refine FWl.val 9 rfl rfl (Value.int .i64 0) _ (r_assign) ?_
  refine FWl.store (vs := [Value.int .i64 1, Value.slice A26 (([(⟨(⟨#[97]⟩ : ByteArray), false⟩ : Line)]).length) c27]) (cs' := [Value.int .i64 1, Value.slice A26 (([(⟨(⟨#[97]⟩ : ByteArray), false⟩ : Line)]).length) c27]) rfl rfl rfl Try.sizeOf57 rfl st31 hH37 rfl rfl rfl rfl rfl rfl ?_
  intro w38 m39 st31_40
  have hE_41 := hE_34.trans (m39.ext hE_34.size (by omega))
  have st15_42 := st15_35.other m39 (st15_35.ne_type st31 (by decide))
  have hm12_43 := hm12_36.other m39 st31 (by decide)
  have hH44 := m39.has
  obtain ⟨C45, m46, hcg47⟩ := st31_40.commit hH44
  have hE_48 := hE_41.trans (m46.ext hE_41.size (by omega))
  have st15_49 := st15_42.other m46 (st15_42.ne_type st31_40 (by decide))
  have hm12_50 := hm12_43.other m46 st31_40 (by decide)
  have hH51 := m46.has
  have hs11_54 := hs11.mono m46.le
  have hg25_55 := hg25.mono m46.le
  refine FWl.nil (hK12 _ _ ?_)
  clear hK12 K12
  refine FW.region rfl ?_
  refine FWl.val 37 rfl rfl (Value.pointer (some ⟨g13, 0, none⟩)) _ (r_move) ?_
  refine FWl.val 38 rfl rfl (Value.agg #[Value.int .i64 1, Value.slice A26 (([(⟨(⟨#[97]⟩ : ByteArray), false⟩ : Line)]).length) c27]) _ (r_loadPN Try.isAgg57 Try.sizeOf57 hcg47 rfl hH51) ?_
  refine FWl.val 39 rfl rfl (Value.int .i64 0) _ (r_move) ?_
  refine FWl.val 40 rfl rfl (Value.slice A4 (([(⟨1, [(⟨(⟨#[97]⟩ : ByteArray), false⟩ : Line)]⟩ : Edit), (⟨2, [(⟨(⟨#[98]⟩ : ByteArray), false⟩ : Line)]⟩ : Edit), (⟨3, [(⟨(⟨#[99]⟩ : ByteArray), false⟩ : Line)]⟩ : Edit)]).length) c5) _ (r_move) ?_
  refine FWl.val 41 rfl rfl (Value.int .i64 3) _ (r_lenSl Try.underlying26 rfl) ?_
  refine FWl.val 42 rfl rfl (Value.int .i64 2) _ (r_subE (a := 3) (b := 1) rfl rfl (by decide)) ?_
  refine FWl.val 43 rfl rfl (Value.bool false) _ (r_eql (a := 0) (b := 2) rfl rfl) ?_
  refine FWl.call 44 rfl rfl 28 #[Value.pointer (some ⟨g13, 0, none⟩), Value.agg #[Value.int .i64 1, Value.slice A26 (([(⟨(⟨#[97]⟩ : ByteArray), false⟩ : Line)]).length) c27], Value.bool false] (r_call3 Try.call28 rfl rfl rfl rfl) (Ret.of Try.func28 rfl Try.ntmps28 rfl ?_)
  refine FW.seq_k fun K13 hK13 => ?_
  refine FW.region rfl ?_
  refine FWl.box (cs := [Value.int .i64 1, Value.slice A26 (([(⟨(⟨#[97]⟩ : ByteArray), false⟩ : Line)]).length) c27]) rfl rfl rfl rfl rfl hH51 ?_
  intro g57 w58 st59 e60 hg61
  have hge_st59_hE := Nat.le_trans hE_48.size (Nat.le_of_eq hg61)
  have hE_62 := hE_48.step e60
  have st15_63 := st15_49.call e60
  have hm12_64 := hm12_50.call e60
  have hH65 := e60.has
  have hlt_st59 := st59.lt
  obtain ⟨C66, m67, hcg68⟩ := st59.commit hH65
  have hE_69 := hE_62.trans (m67.ext hE_62.size (by omega))
  have st15_70 := st15_63.other m67 (st15_63.ne_type st59 (by decide))
  have hm12_71 := hm12_64.other m67 st59 (by decide)
  have hH72 := m67.has
  have hs11_75 := hs11_54.mono m67.le
  have hg25_76 := hg25_55.mono m67.le
  refine FWl.nil (hK13 _ _ ?_)
  clear hK13 K13
  refine FW.block ?_
  refine FW.seq_k fun K14 hK14 => ?_
  refine FW.region rfl ?_
  refine FWl.val 22 rfl rfl (Value.agg #[Value.int .i64 1, Value.slice A26 (([(⟨(⟨#[97]⟩ : ByteArray), false⟩ : Line)]).length) c27]) _ (r_loadPN Try.isAgg57 Try.sizeOf57 hcg68 rfl hH72) ?_
  refine FWl.call 23 rfl rfl 50 #[Value.agg #[Value.int .i64 1, Value.slice A26 (([(⟨(⟨#[97]⟩ : ByteArray), false⟩ : Line)]).length) c27]] (r_call1 Try.call50 rfl rfl) (Ret.of Try.func50 rfl Try.ntmps50 rfl ?_)
  refine FW.seq_k fun K15 hK15 => ?_
  refine FW.region rfl ?_
  refine FWl.box (cs := [Value.int .i64 1, Value.slice A26 (([(⟨(⟨#[97]⟩ : ByteArray), false⟩ : Line)]).length) c27]) rfl rfl rfl rfl rfl hH72 ?_
  intro g79 w80 st81 e82 hg83
  have hge_st81_hE := Nat.le_trans hE_69.size (Nat.le_of_eq hg83)
  have hE_84 := hE_69.step e82
  have st15_85 := st15_70.call e82
  have hm12_86 := hm12_71.call e82
  have hH87 := e82.has
  have hlt_st81 := st81.lt
  obtain ⟨C88, m89, hcg90⟩ := st81.commit hH87
  have hE_91 := hE_84.trans (m89.ext hE_84.size (by omega))
  have st15_92 := st15_85.other m89 (st15_85.ne_type st81 (by decide))
  have hm12_93 := hm12_86.other m89 st81 (by decide)
  have hH94 := m89.has
  have hs11_97 := hs11_75.mono m89.le
  have hg25_98 := hg25_76.mono m89.le
  have hcg68_101 := hcg68.mono m89.le
  refine FWl.val 2 rfl rfl (Value.bool false) _ (r_assign) ?_
  refine FWl.nil (hK15 _ _ ?_)
  clear hK15 K15
  refine FW.seq_k fun K16 hK16 => ?_
  refine FW.region rfl ?_
  refine FWl.val 3 rfl rfl (Value.pointer (some ⟨g79, 0, none⟩)) _ (r_fieldAddrS Try.underlying57 rfl Try.sizeOf55 rfl rfl rfl rfl) ?_
  refine FWl.val 4 rfl rfl (Value.int .i64 1) _ (r_loadP1 Try.isAgg55 hcg90 rfl rfl hH94) ?_
  refine FWl.val 5 rfl rfl (Value.bool false) _ (r_neq (a := 1) (b := 1) rfl rfl) ?_
  refine FWl.val 2 rfl rfl (Value.bool false) _ (r_assign) ?_
  refine FWl.nil (hK16 _ _ ?_)
  clear hK16 K16
  refine FW.ret (?_)
  refine ret_tmp (v := Value.bool false) Try.results50 (.inl rfl) rfl ?_
  refine FWl.val 21 rfl rfl (Value.bool false) _ (r_assign) ?_
  refine FWl.nil (hK14 _ _ ?_)
  clear hK14 K14
  refine FW.cond false rfl (fun h => nomatch h) (fun _ => ?_)
  refine FW.seq_k fun K17 hK17 => ?_
  refine FW.region rfl ?_
  refine FWl.val 48 rfl rfl (Value.pointer (some ⟨g13, 0, none⟩)) _ (r_move) ?_
  refine FWl.val 49 rfl rfl (Value.pointer (some ⟨g13, 0, none⟩)) _ (r_nilCheck rfl) ?_
  refine FWl.val 50 rfl rfl (Value.pointer (some ⟨g13, 2, none⟩)) _ (r_fieldAddrS Try.underlying73 rfl Try.sizeOf26 rfl rfl rfl rfl) ?_
  refine FWl.val 51 rfl rfl (Value.slice none 0 0) _ (r_load1 Try.isAgg26 rfl (st15_92.cell rfl)) ?_
  refine FWl.val 52 rfl rfl (Value.int .i64 0) _ (r_lenSl Try.underlying26 rfl) ?_
  refine FWl.val 53 rfl rfl (Value.bool true) _ (r_eql (a := 0) (b := 0) rfl rfl) ?_
  refine FWl.val 47 rfl rfl (Value.bool true) _ (r_assign) ?_
  refine FWl.nil (hK17 _ _ ?_)
  clear hK17 K17
  refine FW.cond true rfl (fun _ => ?_) (fun h => nomatch h)
  refine FW.region rfl ?_
  refine FWl.val 54 rfl rfl (Value.pointer (some ⟨g13, 0, none⟩)) _ (r_move) ?_
  refine FWl.val 55 rfl rfl (Value.pointer (some ⟨g57, 1, none⟩)) _ (r_fieldAddrS Try.underlying57 rfl Try.sizeOf22 rfl rfl rfl rfl) ?_
  refine FWl.val 56 rfl rfl (Value.slice A26 (([(⟨(⟨#[97]⟩ : ByteArray), false⟩ : Line)]).length) c27) _ (r_loadP1 Try.isAgg22 hcg68_101 rfl rfl hH94) ?_
  refine FWl.val 57 rfl rfl (Value.pointer (some ⟨g13, 0, none⟩)) _ (r_nilCheck rfl) ?_
  refine FWl.val 58 rfl rfl (Value.pointer (some ⟨g13, 5, none⟩)) _ (r_fieldAddrS Try.underlying73 rfl Try.sizeOf22 rfl rfl rfl rfl) ?_
  refine FWl.store (vs := [Value.slice A26 (([(⟨(⟨#[97]⟩ : ByteArray), false⟩ : Line)]).length) c27]) (cs' := [Value.int .i64 0, Value.slice none 0 0, Value.slice none 0 0, Value.int .i64 0, Value.int .i64 0, Value.slice A26 (([(⟨(⟨#[97]⟩ : ByteArray), false⟩ : Line)]).length) c27]) rfl rfl rfl Try.sizeOf22 rfl st15_92 hH94 rfl rfl rfl rfl rfl rfl ?_
  intro w102 m103 st15_104
  have hE_105 := hE_91.trans (m103.ext hE_91.size (by omega))
  have hm12_106 := hm12_93.other m103 st15_92 (by decide)
  have hH107 := m103.has
  refine FWl.nil (inBlockF_norm (?_))
  refine ret_none  Try.results28 (.inr rfl) ?_
  refine FWl.nil (hK11 _ _ ?_)
  clear hK11 K11
  refine FW.region rfl ?_
  refine FWl.val 45 rfl rfl (Value.int .i64 1) _ (r_addE (a := 0) (b := 1) rfl rfl (by decide)) ?_
  refine FWl.val 32 rfl rfl (Value.int .i64 1) _ (r_move) ?_
  refine FWl.nil (thenF_round ?_)
  refine FW.seq_k fun K18 hK18 => ?_
  refine FW.region rfl ?_
  refine FWl.val 33 rfl rfl (Value.bool true) _ (r_lss (a := 1) (b := 3) rfl rfl) ?_
  refine FWl.nil (hK18 _ _ ?_)
  clear hK18 K18
  refine FW.seq_k fun K19 hK19 => ?_
  refine FW.cond true rfl (fun _ => ?_) (fun h => nomatch h)
  refine FW.skip (hK19 _ _ ?_)
  clear hK19 K19
  refine FW.seq_k fun K20 hK20 => ?_
  refine FW.block ?_
  refine FW.seq_k fun K21 hK21 => ?_
  refine FW.region rfl ?_
  refine FWl.val 34 rfl rfl (Value.int .i64 1) _ (r_move) ?_
  have hx109 : ([(⟨1, [(⟨(⟨#[97]⟩ : ByteArray), false⟩ : Line)]⟩ : Edit), (⟨2, [(⟨(⟨#[98]⟩ : ByteArray), false⟩ : Line)]⟩ : Edit), (⟨3, [(⟨(⟨#[99]⟩ : ByteArray), false⟩ : Line)]⟩ : Edit)] : List Edit)[(1 : Int).toNat]? = some (⟨2, [(⟨(⟨#[98]⟩ : ByteArray), false⟩ : Line)]⟩ : Edit) := rfl
  obtain ⟨cs110, hr111, hg112⟩ := hs11_97.at_ _ _ hx109
  obtain ⟨A113, c114, rfl, hs115⟩ := hr111
  refine FWl.val 35 rfl rfl (ptrAt A4 ((1 : Int).toNat * 2)) _ (r_indexAddr Try.underlying26 Try.sizeOf57 rfl rfl (hs11_97.isSome (by simp)) (by omega) (by simp)) ?_
  refine FWl.val 36 rfl rfl (Value.agg #[Value.int .i64 2, Value.slice A113 (([(⟨(⟨#[98]⟩ : ByteArray), false⟩ : Line)]).length) c114]) _ (r_loadGN Try.isAgg57 Try.sizeOf57 hg112 rfl hH107) ?_
  refine FWl.alloc (cs := [Value.int .i64 0, Value.slice none 0 0]) rfl rfl rfl Try.zeroValue57 rfl hH107 ?_
  intro g116 w117 st118 e119 hg120
  have hge_st118_hE := Nat.le_trans hE_105.size (Nat.le_of_eq hg120)
  have hE_121 := hE_105.step e119
  have st15_122 := st15_104.call e119
  have hm12_123 := hm12_106.call e119
  have hH124 := e119.has
  have hlt_st118 := st118.lt
  refine FWl.val 9 rfl rfl (Value.int .i64 1) _ (r_assign) ?_
  refine FWl.store (vs := [Value.int .i64 2, Value.slice A113 (([(⟨(⟨#[98]⟩ : ByteArray), false⟩ : Line)]).length) c114]) (cs' := [Value.int .i64 2, Value.slice A113 (([(⟨(⟨#[98]⟩ : ByteArray), false⟩ : Line)]).length) c114]) rfl rfl rfl Try.sizeOf57 rfl st118 hH124 rfl rfl rfl rfl rfl rfl ?_
  intro w125 m126 st118_127
  have hE_128 := hE_121.trans (m126.ext hE_121.size (by omega))
  have st15_129 := st15_122.other m126 (st15_122.ne_type st118 (by decide))
  have hm12_130 := hm12_123.other m126 st118 (by decide)
  have hH131 := m126.has
  obtain ⟨C132, m133, hcg134⟩ := st118_127.commit hH131
  have hE_135 := hE_128.trans (m133.ext hE_128.size (by omega))
  have st15_136 := st15_129.other m133 (st15_129.ne_type st118_127 (by decide))
  have hm12_137 := hm12_130.other m133 st118_127 (by decide)
  have hH138 := m133.has
  have hs11_141 := hs11_97.mono m133.le
  have hg25_142 := hg25_98.mono m133.le
  have hg112_147 := hg112.mono m133.le
  have hs115_148 := hs115.mono m133.le
  refine FWl.nil (hK21 _ _ ?_)
  clear hK21 K21
  refine FW.region rfl ?_
  refine FWl.val 37 rfl rfl (Value.pointer (some ⟨g13, 0, none⟩)) _ (r_move) ?_
  refine FWl.val 38 rfl rfl (Value.agg #[Value.int .i64 2, Value.slice A113 (([(⟨(⟨#[98]⟩ : ByteArray), false⟩ : Line)]).length) c114]) _ (r_loadPN Try.isAgg57 Try.sizeOf57 hcg134 rfl hH138) ?_
  refine FWl.val 39 rfl rfl (Value.int .i64 1) _ (r_move) ?_
  refine FWl.val 40 rfl rfl (Value.slice A4 (([(⟨1, [(⟨(⟨#[97]⟩ : ByteArray), false⟩ : Line)]⟩ : Edit), (⟨2, [(⟨(⟨#[98]⟩ : ByteArray), false⟩ : Line)]⟩ : Edit), (⟨3, [(⟨(⟨#[99]⟩ : ByteArray), false⟩ : Line)]⟩ : Edit)]).length) c5) _ (r_move) ?_
  refine FWl.val 41 rfl rfl (Value.int .i64 3) _ (r_lenSl Try.underlying26 rfl) ?_
  refine FWl.val 42 rfl rfl (Value.int .i64 2) _ (r_subE (a := 3) (b := 1) rfl rfl (by decide)) ?_
  refine FWl.val 43 rfl rfl (Value.bool false) _ (r_eql (a := 1) (b := 2) rfl rfl) ?_
  refine FWl.call 44 rfl rfl 28 #[Value.pointer (some ⟨g13, 0, none⟩), Value.agg #[Value.int .i64 2, Value.slice A113 (([(⟨(⟨#[98]⟩ : ByteArray), false⟩ : Line)]).length) c114], Value.bool false] (r_call3 Try.call28 rfl rfl rfl rfl) (Ret.of Try.func28 rfl Try.ntmps28 rfl ?_)
  refine FW.seq_k fun K22 hK22 => ?_
  refine FW.region rfl ?_
  refine FWl.box (cs := [Value.int .i64 2, Value.slice A113 (([(⟨(⟨#[98]⟩ : ByteArray), false⟩ : Line)]).length) c114]) rfl rfl rfl rfl rfl hH138 ?_
  intro g149 w150 st151 e152 hg153
  have hge_st151_hE := Nat.le_trans hE_135.size (Nat.le_of_eq hg153)
  have hE_154 := hE_135.step e152
  have st15_155 := st15_136.call e152
  have hm12_156 := hm12_137.call e152
  have hH157 := e152.has
  have hlt_st151 := st151.lt
  obtain ⟨C158, m159, hcg160⟩ := st151.commit hH157
  have hE_161 := hE_154.trans (m159.ext hE_154.size (by omega))
  have st15_162 := st15_155.other m159 (st15_155.ne_type st151 (by decide))
  have hm12_163 := hm12_156.other m159 st151 (by decide)
  have hH164 := m159.has
  have hs11_167 := hs11_141.mono m159.le
  have hg25_168 := hg25_142.mono m159.le
  have hg112_173 := hg112_147.mono m159.le
  have hs115_174 := hs115_148.mono m159.le
  refine FWl.nil (hK22 _ _ ?_)
  clear hK22 K22
  refine FW.block ?_
  refine FW.seq_k fun K23 hK23 => ?_
  refine FW.region rfl ?_
  refine FWl.val 22 rfl rfl (Value.agg #[Value.int .i64 2, Value.slice A113 (([(⟨(⟨#[98]⟩ : ByteArray), false⟩ : Line)]).length) c114]) _ (r_loadPN Try.isAgg57 Try.sizeOf57 hcg160 rfl hH164) ?_
  refine FWl.call 23 rfl rfl 50 #[Value.agg #[Value.int .i64 2, Value.slice A113 (([(⟨(⟨#[98]⟩ : ByteArray), false⟩ : Line)]).length) c114]] (r_call1 Try.call50 rfl rfl) (Ret.of Try.func50 rfl Try.ntmps50 rfl ?_)
  refine FW.seq_k fun K24 hK24 => ?_
  refine FW.region rfl ?_
  refine FWl.box (cs := [Value.int .i64 2, Value.slice A113 (([(⟨(⟨#[98]⟩ : ByteArray), false⟩ : Line)]).length) c114]) rfl rfl rfl rfl rfl hH164 ?_
  intro g176 w177 st178 e179 hg180
  have hge_st178_hE := Nat.le_trans hE_161.size (Nat.le_of_eq hg180)
  have hE_181 := hE_161.step e179
  have st15_182 := st15_162.call e179
  have hm12_183 := hm12_163.call e179
  have hH184 := e179.has
  have hlt_st178 := st178.lt
  obtain ⟨C185, m186, hcg187⟩ := st178.commit hH184
  have hE_188 := hE_181.trans (m186.ext hE_181.size (by omega))
  have st15_189 := st15_182.other m186 (st15_182.ne_type st178 (by decide))
  have hm12_190 := hm12_183.other m186 st178 (by decide)
  have hH191 := m186.has
  have hs11_194 := hs11_167.mono m186.le
  have hg25_195 := hg25_168.mono m186.le
  have hg112_200 := hg112_173.mono m186.le
  have hs115_201 := hs115_174.mono m186.le
  have hcg160_203 := hcg160.mono m186.le
  refine FWl.val 2 rfl rfl (Value.bool false) _ (r_assign) ?_
  refine FWl.nil (hK24 _ _ ?_)
  clear hK24 K24
  refine FW.seq_k fun K25 hK25 => ?_
  refine FW.region rfl ?_
  refine FWl.val 3 rfl rfl (Value.pointer (some ⟨g176, 0, none⟩)) _ (r_fieldAddrS Try.underlying57 rfl Try.sizeOf55 rfl rfl rfl rfl) ?_
  refine FWl.val 4 rfl rfl (Value.int .i64 2) _ (r_loadP1 Try.isAgg55 hcg187 rfl rfl hH191) ?_
  refine FWl.val 5 rfl rfl (Value.bool true) _ (r_neq (a := 2) (b := 1) rfl rfl) ?_
  refine FWl.val 2 rfl rfl (Value.bool true) _ (r_assign) ?_
  refine FWl.nil (hK25 _ _ ?_)
  clear hK25 K25
  refine FW.ret (?_)
  refine ret_tmp (v := Value.bool true) Try.results50 (.inl rfl) rfl ?_
  refine FWl.val 21 rfl rfl (Value.bool true) _ (r_assign) ?_
  refine FWl.nil (hK23 _ _ ?_)
  clear hK23 K23
  refine FW.cond true rfl (fun _ => ?_) (fun h => nomatch h)
  refine FW.seq_k fun K26 hK26 => ?_
  refine FW.seq_k fun K27 hK27 => ?_
  refine FW.region rfl ?_
  refine FWl.val 24 rfl rfl (Value.pointer (some ⟨g13, 0, none⟩)) _ (r_move) ?_
  refine FWl.val 25 rfl rfl (Value.pointer (some ⟨g13, 0, none⟩)) _ (r_nilCheck rfl) ?_
  refine FWl.val 26 rfl rfl (Value.pointer (some ⟨g13, 2, none⟩)) _ (r_fieldAddrS Try.underlying73 rfl Try.sizeOf26 rfl rfl rfl rfl) ?_
  refine FWl.val 27 rfl rfl (Value.slice none 0 0) _ (r_load1 Try.isAgg26 rfl (st15_189.cell rfl)) ?_
  refine FWl.val 28 rfl rfl (Value.int .i64 0) _ (r_lenSl Try.underlying26 rfl) ?_
  refine FWl.val 29 rfl rfl (Value.bool true) _ (r_eql (a := 0) (b := 0) rfl rfl) ?_
  refine FWl.nil (hK27 _ _ ?_)
  clear hK27 K27
  refine FW.cond true rfl (fun _ => ?_) (fun h => nomatch h)
  refine FW.region rfl ?_
  refine FWl.val 30 rfl rfl (Value.pointer (some ⟨g13, 0, none⟩)) _ (r_move) ?_
  refine FWl.call 31 rfl rfl 51 #[Value.pointer (some ⟨g13, 0, none⟩)] (r_call1 Try.call51 rfl rfl) (Ret.of Try.func51 rfl Try.ntmps51 rfl ?_)
  refine FW.seq_k fun K28 hK28 => ?_
  refine FW.region rfl ?_
  refine FWl.val 4 rfl rfl (Value.pointer (some ⟨g13, 0, none⟩)) _ (r_move) ?_
  refine FWl.val 5 rfl rfl (Value.pointer (some ⟨g13, 0, none⟩)) _ (r_nilCheck rfl) ?_
  refine FWl.val 6 rfl rfl (Value.pointer (some ⟨g13, 5, none⟩)) _ (r_fieldAddrS Try.underlying73 rfl Try.sizeOf22 rfl rfl rfl rfl) ?_
  refine FWl.val 7 rfl rfl (Value.slice A26 (([(⟨(⟨#[97]⟩ : ByteArray), false⟩ : Line)]).length) c27) _ (r_load1 Try.isAgg22 rfl (st15_189.cell rfl)) ?_
  refine FWl.val 8 rfl rfl (Value.int .i64 1) _ (r_lenSl Try.underlying22 rfl) ?_
  refine FWl.val 2 rfl rfl (Value.int .i64 1) _ (r_assign) ?_
  refine FWl.nil (hK28 _ _ ?_)
  clear hK28 K28
  refine FW.seq_k fun K29 hK29 => ?_
  refine FW.seq_k fun K30 hK30 => ?_
  refine FW.region rfl ?_
  refine FWl.val 9 rfl rfl (Value.pointer (some ⟨g13, 0, none⟩)) _ (r_move) ?_
  refine FWl.val 10 rfl rfl (Value.pointer (some ⟨g13, 0, none⟩)) _ (r_nilCheck rfl) ?_
  refine FWl.val 11 rfl rfl (Value.pointer (some ⟨g13, 0, none⟩)) _ (r_fieldAddrS Try.underlying73 rfl Try.sizeOf3 rfl rfl rfl rfl) ?_
  refine FWl.val 12 rfl rfl (Value.int .i64 0) _ (r_load1 Try.isAgg3 rfl (st15_189.cell rfl)) ?_
  refine FWl.val 13 rfl rfl (Value.int .i64 1) _ (r_move) ?_
  refine FWl.val 14 rfl rfl (Value.int .i64 0) _ (r_min2E (a := 0) (b := 1) rfl rfl (by decide)) ?_
  refine FWl.val 3 rfl rfl (Value.int .i64 0) _ (r_assign) ?_
  refine FWl.nil (hK30 _ _ ?_)
  clear hK30 K30
  refine FW.seq_k fun K31 hK31 => ?_
  refine FW.region rfl ?_
  refine FWl.val 15 rfl rfl (Value.int .i64 0) _ (r_move) ?_
  refine FWl.val 16 rfl rfl (Value.bool false) _ (r_gtr (a := 0) (b := 0) rfl rfl) ?_
  refine FWl.nil (hK31 _ _ ?_)
  clear hK31 K31
  refine FW.cond false rfl (fun h => nomatch h) (fun _ => ?_)
  refine FW.skip (hK29 _ _ ?_)
  clear hK29 K29
  refine FW.region rfl ?_
  refine FWl.val 36 rfl rfl (Value.pointer (some ⟨g13, 0, none⟩)) _ (r_move) ?_
  refine FWl.val 37 rfl rfl (Value.pointer (some ⟨g13, 0, none⟩)) _ (r_nilCheck rfl) ?_
  refine FWl.val 38 rfl rfl (Value.pointer (some ⟨g13, 5, none⟩)) _ (r_fieldAddrS Try.underlying73 rfl Try.sizeOf22 rfl rfl rfl rfl) ?_
  refine FWl.store (vs := [Value.slice none 0 0]) (cs' := [Value.int .i64 0, Value.slice none 0 0, Value.slice none 0 0, Value.int .i64 0, Value.int .i64 0, Value.slice none 0 0]) rfl rfl rfl Try.sizeOf22 rfl st15_189 hH191 rfl rfl rfl rfl rfl rfl ?_
  intro w204 m205 st15_206
  have hE_207 := hE_188.trans (m205.ext hE_188.size (by omega))
  have hm12_208 := hm12_190.other m205 st15_189 (by decide)
  have hH209 := m205.has
  refine FWl.nil (?_)
  refine ret_none  Try.results51 (.inr rfl) ?_
  refine FWl.nil (hK26 _ _ ?_)
  clear hK26 K26
  refine FW.regionDraw mixed (SS C185 (fun _ => True) w204.drew) [15] [(0, true), (1, true), (2, true), (3, true), (4, true), (5, true), (6, true), (7, false), (8, false), (9, false), (10, false), (11, false), (12, false), (13, false), (14, false), (15, false)] rfl (by kernel_rfl) ?_
  have e211 : Ext w204.heap.size w204 C185 w204.drew C185 := (Ext.refl hH209).drew
  generalize w204.drew = w210 at *
  have hE_212 := hE_207.step e211
  have st15_213 := st15_206.call e211
  have hm12_214 := hm12_208.call e211
  have hH215 := e211.has
  have hS216 : SS C185 (fun _ => True) w210 w210 := SS.refl hH215
  have hle217 := Gle.refl C185
  refine FWs.take rfl 32 rfl rfl (Value.pointer (some ⟨g13, 0, none⟩)) hS216 (fun _ _ => r_move) ?_
  refine FWs.take rfl 33 rfl rfl (Value.pointer (some ⟨g13, 0, none⟩)) hS216 (fun _ _ => r_move) ?_
  refine FWs.take rfl 34 rfl rfl (Value.pointer (some ⟨g13, 0, none⟩)) hS216 (fun _ _ => r_nilCheck rfl) ?_
  refine FWs.take rfl 35 rfl rfl (Value.pointer (some ⟨g13, 2, none⟩)) hS216 (fun _ _ => r_fieldAddrS Try.underlying73 rfl Try.sizeOf26 rfl rfl rfl rfl) ?_
  refine FWs.take rfl 36 rfl rfl (Value.slice none 0 0) hS216 (fun _ hS' => r_load1 Try.isAgg26 rfl (hS'.cell st15_213 trivial rfl)) ?_
  refine FWs.take rfl 37 rfl rfl (Value.pointer (some ⟨g149, 0, none⟩)) hS216 (fun _ _ => r_fieldAddrS Try.underlying57 rfl Try.sizeOf55 rfl rfl rfl rfl) ?_
  refine FWs.take rfl 38 rfl rfl (Value.int .i64 2) hS216 (fun _ hS' => r_loadP1 Try.isAgg55 hcg160_203 rfl rfl hS'.has) ?_
  refine FWs.val rfl 39 rfl rfl (Value.pointer (some ⟨g149, 1, none⟩)) _ (r_fieldAddrS Try.underlying57 rfl Try.sizeOf22 rfl rfl rfl rfl) (.inr hS216) ?_
  refine FWs.val rfl 40 rfl rfl (Value.slice A113 (([(⟨(⟨#[98]⟩ : ByteArray), false⟩ : Line)]).length) c114) _ (r_loadP1 Try.isAgg22 hcg160_203 rfl rfl hH215) (.inr hS216) ?_
  refine FWs.call rfl 41 rfl rfl 52 #[Value.slice A113 (([(⟨(⟨#[98]⟩ : ByteArray), false⟩ : Line)]).length) c114] (r_call1 Try.call52 rfl rfl) ((cloneLine_c hH215 hs115_201 (by simp)).mono ?_)
  rintro _ w218 ⟨C219, A221, c222, rfl, e220, hs223, ho224⟩
  have hE_225 := hE_212.step e220
  have st15_226 := st15_213.call e220
  have hm12_227 := hm12_214.call e220
  have hle228 := hle217.trans e220.le
  have hs11_231 := hs11_194.mono e220.le
  have hg25_232 := hg25_195.mono e220.le
  have hg112_237 := hg112_200.mono e220.le
  have hH242 := e220.has
  have hS243 := hS216.step e220
  have ho244 := ho224.lower hE_212.size
  refine ⟨(.inr hS243), ?_⟩
  refine FWs.val rfl 42 rfl rfl (Value.agg #[Value.int .i64 2, Value.slice A221 (([(⟨(⟨#[98]⟩ : ByteArray), false⟩ : Line)]).length) c222]) _ (r_build (by kernel_rfl)) (.inr hS243) ?_
  refine FWs.lit (K := kEdit) (xs := [(⟨2, [(⟨(⟨#[98]⟩ : ByteArray), false⟩ : Line)]⟩ : Edit)]) (cs := [Value.int .i64 2, Value.slice A221 (([(⟨(⟨#[98]⟩ : ByteArray), false⟩ : Line)]).length) c222]) rfl rfl rfl rfl Try.underlying26 info57 zero57 rfl (by kernel_rfl) (.cons (cs := [Value.int .i64 2, Value.slice A221 (([(⟨(⟨#[98]⟩ : ByteArray), false⟩ : Line)]).length) c222]) (kEdit_mk hs223) .nil) rfl hH242 ?_
  intro A245 w246 C247 hs248 e249 hcg250
  have hE_251 := hE_225.step e249
  have st15_252 := st15_226.call e249
  have ho224_253 := ho244.call e249
  have hm12_254 := hm12_227.call e249
  have hle255 := hle228.trans e249.le
  have hs11_258 := hs11_231.mono e249.le
  have hg25_259 := hg25_232.mono e249.le
  have hg112_264 := hg112_237.mono e249.le
  have hH270 := e249.has
  have hS271 := hS243.step e249
  refine ⟨(.inr hS271), ?_⟩
  refine FWs.app (K := kEdit) (B := w.heap.size) (xs := []) (ys := [(⟨2, [(⟨(⟨#[98]⟩ : ByteArray), false⟩ : Line)]⟩ : Edit)]) (sz := 2) (bytes := 32) rfl rfl rfl rfl Try.underlying26 info57 zero57 rfl rfl rfl rfl rfl rfl rfl (Sl.nil kEdit _ _ _) Own.full hs248 hH270 hE_251.size (by simp only [List.length_cons, List.length_nil]; omega) (by simp only [List.length_cons, List.length_nil]; omega) ?_
  intro A272 c273 w274 C275 hs276 ow277 e278 ap279
  have hE_280 := hE_251.trans e278
  have hm12_281 := hm12_254.app ap279 (Own.full (B := 0) (e := 57) (sz := 0)) (by decide)
  have st15_282 := st15_252.app ap279 Nb.full
  have ho224_284 := ho224_253.app ap279 Nb2.full
  have hle285 := hle255.trans e278.le
  have hs11_288 := hs11_258.mono e278.le
  have hg25_289 := hg25_259.mono e278.le
  have hg112_294 := hg112_264.mono e278.le
  have hH302 := e278.has
  have hS303 := hS271.app ap279 hH302 hle285 (fun _ _ => Nb.full)
  refine ⟨(.inr hS303), ?_⟩
  refine FWs.val rfl 45 rfl rfl (Value.pointer (some ⟨g13, 0, none⟩)) _ (r_nilCheck rfl) (.inr hS303) ?_
  refine FWs.val rfl 46 rfl rfl (Value.pointer (some ⟨g13, 2, none⟩)) _ (r_fieldAddrS Try.underlying73 rfl Try.sizeOf26 rfl rfl rfl rfl) (.inr hS303) ?_
  refine FWs.store (vs := [Value.slice A272 (([(⟨2, [(⟨(⟨#[98]⟩ : ByteArray), false⟩ : Line)]⟩ : Edit)]).length) c273]) (cs' := [Value.int .i64 0, Value.slice none 0 0, Value.slice A272 (([(⟨2, [(⟨(⟨#[98]⟩ : ByteArray), false⟩ : Line)]⟩ : Edit)]).length) c273, Value.int .i64 0, Value.int .i64 0, Value.slice none 0 0]) rfl rfl rfl rfl Try.sizeOf26 rfl st15_282 hH302 rfl rfl rfl rfl rfl rfl ?_
  intro w304 m305 st15_306
  have hE_307 := hE_280.trans (m305.ext hE_280.size (by omega))
  have ho224_308 := ho224_284.mut m305 (ho224_284.nbT st15_282 (by decide))
  have ow277_309 := ow277.mut m305 (ow277.nbT st15_282 (by decide))
  have hm12_310 := hm12_281.other m305 st15_282 (by decide)
  have hH311 := m305.has
  refine ⟨(.inl rfl), ?_⟩
  refine FWs.nil (inBlockF_norm (?_))
  refine ret_none  Try.results28 (.inr rfl) ?_
  refine FWl.nil (hK20 _ _ ?_)
  clear hK20 K20
  refine FW.region rfl ?_
  refine FWl.val 45 rfl rfl (Value.int .i64 2) _ (r_addE (a := 1) (b := 1) rfl rfl (by decide)) ?_
  refine FWl.val 32 rfl rfl (Value.int .i64 2) _ (r_move) ?_
  refine FWl.nil (thenF_round ?_)
  refine FW.seq_k fun K32 hK32 => ?_
  refine FW.region rfl ?_
  refine FWl.val 33 rfl rfl (Value.bool true) _ (r_lss (a := 2) (b := 3) rfl rfl) ?_
  refine FWl.nil (hK32 _ _ ?_)
  clear hK32 K32
  refine FW.seq_k fun K33 hK33 => ?_
  refine FW.cond true rfl (fun _ => ?_) (fun h => nomatch h)
  refine FW.skip (hK33 _ _ ?_)
  clear hK33 K33
  refine FW.seq_k fun K34 hK34 => ?_
  refine FW.block ?_
  refine FW.seq_k fun K35 hK35 => ?_
  refine FW.region rfl ?_
  refine FWl.val 34 rfl rfl (Value.int .i64 2) _ (r_move) ?_
  have hx313 : ([(⟨1, [(⟨(⟨#[97]⟩ : ByteArray), false⟩ : Line)]⟩ : Edit), (⟨2, [(⟨(⟨#[98]⟩ : ByteArray), false⟩ : Line)]⟩ : Edit), (⟨3, [(⟨(⟨#[99]⟩ : ByteArray), false⟩ : Line)]⟩ : Edit)] : List Edit)[(2 : Int).toNat]? = some (⟨3, [(⟨(⟨#[99]⟩ : ByteArray), false⟩ : Line)]⟩ : Edit) := rfl
  obtain ⟨cs314, hr315, hg316⟩ := hs11_288.at_ _ _ hx313
  obtain ⟨A317, c318, rfl, hs319⟩ := hr315
  refine FWl.val 35 rfl rfl (ptrAt A4 ((2 : Int).toNat * 2)) _ (r_indexAddr Try.underlying26 Try.sizeOf57 rfl rfl (hs11_288.isSome (by simp)) (by omega) (by simp)) ?_
  refine FWl.val 36 rfl rfl (Value.agg #[Value.int .i64 3, Value.slice A317 (([(⟨(⟨#[99]⟩ : ByteArray), false⟩ : Line)]).length) c318]) _ (r_loadGN Try.isAgg57 Try.sizeOf57 hg316 rfl hH311) ?_
  refine FWl.alloc (cs := [Value.int .i64 0, Value.slice none 0 0]) rfl rfl rfl Try.zeroValue57 rfl hH311 ?_
  intro g320 w321 st322 e323 hg324
  have hge_st322_hE := Nat.le_trans hE_307.size (Nat.le_of_eq hg324)
  have hE_325 := hE_307.step e323
  have st15_326 := st15_306.call e323
  have ho224_327 := ho224_308.call e323
  have ow277_328 := ow277_309.call e323
  have hm12_329 := hm12_310.call e323
  have hH330 := e323.has
  have hlt_st322 := st322.lt
  have nb332 := ow277_309.nb (Nat.le_of_eq hg324)
  refine FWl.val 9 rfl rfl (Value.int .i64 2) _ (r_assign) ?_
  refine FWl.store (vs := [Value.int .i64 3, Value.slice A317 (([(⟨(⟨#[99]⟩ : ByteArray), false⟩ : Line)]).length) c318]) (cs' := [Value.int .i64 3, Value.slice A317 (([(⟨(⟨#[99]⟩ : ByteArray), false⟩ : Line)]).length) c318]) rfl rfl rfl Try.sizeOf57 rfl st322 hH330 rfl rfl rfl rfl rfl rfl ?_
  intro w333 m334 st322_335
  have hE_336 := hE_325.trans (m334.ext hE_325.size (by omega))
  have st15_337 := st15_326.other m334 (st15_326.ne_type st322 (by decide))
  have ho224_338 := ho224_327.mut m334 (ho224_327.nbT st322 (by decide))
  have ow277_339 := ow277_328.mut m334 nb332
  have hm12_340 := hm12_329.other m334 st322 (by decide)
  have hH341 := m334.has
  obtain ⟨C342, m343, hcg344⟩ := st322_335.commit hH341
  have hE_345 := hE_336.trans (m343.ext hE_336.size (by omega))
  have st15_346 := st15_337.other m343 (st15_337.ne_type st322_335 (by decide))
  have ho224_347 := ho224_338.mut m343 (ho224_338.nbT st322_335 (by decide))
  have ow277_348 := ow277_339.mut m343 nb332
  have hm12_349 := hm12_340.other m343 st322_335 (by decide)
  have hH350 := m343.has
  have hs11_353 := hs11_288.mono m343.le
  have hg25_354 := hg25_289.mono m343.le
  have hg112_359 := hg112_294.mono m343.le
  have hs276_367 := hs276.mono m343.le
  have hg316_368 := hg316.mono m343.le
  have hs319_369 := hs319.mono m343.le
  refine FWl.nil (hK35 _ _ ?_)
  clear hK35 K35
  refine FW.region rfl ?_
  refine FWl.val 37 rfl rfl (Value.pointer (some ⟨g13, 0, none⟩)) _ (r_move) ?_
  refine FWl.val 38 rfl rfl (Value.agg #[Value.int .i64 3, Value.slice A317 (([(⟨(⟨#[99]⟩ : ByteArray), false⟩ : Line)]).length) c318]) _ (r_loadPN Try.isAgg57 Try.sizeOf57 hcg344 rfl hH350) ?_
  refine FWl.val 39 rfl rfl (Value.int .i64 2) _ (r_move) ?_
  refine FWl.val 40 rfl rfl (Value.slice A4 (([(⟨1, [(⟨(⟨#[97]⟩ : ByteArray), false⟩ : Line)]⟩ : Edit), (⟨2, [(⟨(⟨#[98]⟩ : ByteArray), false⟩ : Line)]⟩ : Edit), (⟨3, [(⟨(⟨#[99]⟩ : ByteArray), false⟩ : Line)]⟩ : Edit)]).length) c5) _ (r_move) ?_
  refine FWl.val 41 rfl rfl (Value.int .i64 3) _ (r_lenSl Try.underlying26 rfl) ?_
  refine FWl.val 42 rfl rfl (Value.int .i64 2) _ (r_subE (a := 3) (b := 1) rfl rfl (by decide)) ?_
  refine FWl.val 43 rfl rfl (Value.bool true) _ (r_eql (a := 2) (b := 2) rfl rfl) ?_
  refine FWl.call 44 rfl rfl 28 #[Value.pointer (some ⟨g13, 0, none⟩), Value.agg #[Value.int .i64 3, Value.slice A317 (([(⟨(⟨#[99]⟩ : ByteArray), false⟩ : Line)]).length) c318], Value.bool true] (r_call3 Try.call28 rfl rfl rfl rfl) (Ret.of Try.func28 rfl Try.ntmps28 rfl ?_)
  refine FW.seq_k fun K36 hK36 => ?_
  refine FW.region rfl ?_
  refine FWl.box (cs := [Value.int .i64 3, Value.slice A317 (([(⟨(⟨#[99]⟩ : ByteArray), false⟩ : Line)]).length) c318]) rfl rfl rfl rfl rfl hH350 ?_
  intro g370 w371 st372 e373 hg374
  have hge_st372_hE := Nat.le_trans hE_345.size (Nat.le_of_eq hg374)
  have hE_375 := hE_345.step e373
  have st15_376 := st15_346.call e373
  have ho224_377 := ho224_347.call e373
  have ow277_378 := ow277_348.call e373
  have hm12_379 := hm12_349.call e373
  have hH380 := e373.has
  have hlt_st372 := st372.lt
  have nb382 := ow277_348.nb (Nat.le_of_eq hg374)
  obtain ⟨C383, m384, hcg385⟩ := st372.commit hH380
  have hE_386 := hE_375.trans (m384.ext hE_375.size (by omega))
  have st15_387 := st15_376.other m384 (st15_376.ne_type st372 (by decide))
  have ho224_388 := ho224_377.mut m384 (ho224_377.nbT st372 (by decide))
  have ow277_389 := ow277_378.mut m384 nb382
  have hm12_390 := hm12_379.other m384 st372 (by decide)
  have hH391 := m384.has
  have hs11_394 := hs11_353.mono m384.le
  have hg25_395 := hg25_354.mono m384.le
  have hg112_400 := hg112_359.mono m384.le
  have hs276_408 := hs276_367.mono m384.le
  have hg316_409 := hg316_368.mono m384.le
  have hs319_410 := hs319_369.mono m384.le
  refine FWl.nil (hK36 _ _ ?_)
  clear hK36 K36
  refine FW.block ?_
  refine FW.seq_k fun K37 hK37 => ?_
  refine FW.region rfl ?_
  refine FWl.val 22 rfl rfl (Value.agg #[Value.int .i64 3, Value.slice A317 (([(⟨(⟨#[99]⟩ : ByteArray), false⟩ : Line)]).length) c318]) _ (r_loadPN Try.isAgg57 Try.sizeOf57 hcg385 rfl hH391) ?_
  refine FWl.call 23 rfl rfl 50 #[Value.agg #[Value.int .i64 3, Value.slice A317 (([(⟨(⟨#[99]⟩ : ByteArray), false⟩ : Line)]).length) c318]] (r_call1 Try.call50 rfl rfl) (Ret.of Try.func50 rfl Try.ntmps50 rfl ?_)
  refine FW.seq_k fun K38 hK38 => ?_
  refine FW.region rfl ?_
  refine FWl.box (cs := [Value.int .i64 3, Value.slice A317 (([(⟨(⟨#[99]⟩ : ByteArray), false⟩ : Line)]).length) c318]) rfl rfl rfl rfl rfl hH391 ?_
  intro g412 w413 st414 e415 hg416
  have hge_st414_hE := Nat.le_trans hE_386.size (Nat.le_of_eq hg416)
  have hE_417 := hE_386.step e415
  have st15_418 := st15_387.call e415
  have ho224_419 := ho224_388.call e415
  have ow277_420 := ow277_389.call e415
  have hm12_421 := hm12_390.call e415
  have hH422 := e415.has
  have hlt_st414 := st414.lt
  have nb424 := ow277_389.nb (Nat.le_of_eq hg416)
  obtain ⟨C425, m426, hcg427⟩ := st414.commit hH422
  have hE_428 := hE_417.trans (m426.ext hE_417.size (by omega))
  have st15_429 := st15_418.other m426 (st15_418.ne_type st414 (by decide))
  have ho224_430 := ho224_419.mut m426 (ho224_419.nbT st414 (by decide))
  have ow277_431 := ow277_420.mut m426 nb424
  have hm12_432 := hm12_421.other m426 st414 (by decide)
  have hH433 := m426.has
  have hs11_436 := hs11_394.mono m426.le
  have hg25_437 := hg25_395.mono m426.le
  have hg112_442 := hg112_400.mono m426.le
  have hs276_450 := hs276_408.mono m426.le
  have hg316_451 := hg316_409.mono m426.le
  have hs319_452 := hs319_410.mono m426.le
  have hcg385_454 := hcg385.mono m426.le
  refine FWl.val 2 rfl rfl (Value.bool false) _ (r_assign) ?_
  refine FWl.nil (hK38 _ _ ?_)
  clear hK38 K38
  refine FW.seq_k fun K39 hK39 => ?_
  refine FW.region rfl ?_
  refine FWl.val 3 rfl rfl (Value.pointer (some ⟨g412, 0, none⟩)) _ (r_fieldAddrS Try.underlying57 rfl Try.sizeOf55 rfl rfl rfl rfl) ?_
  refine FWl.val 4 rfl rfl (Value.int .i64 3) _ (r_loadP1 Try.isAgg55 hcg427 rfl rfl hH433) ?_
  refine FWl.val 5 rfl rfl (Value.bool true) _ (r_neq (a := 3) (b := 1) rfl rfl) ?_
  refine FWl.val 2 rfl rfl (Value.bool true) _ (r_assign) ?_
  refine FWl.nil (hK39 _ _ ?_)
  clear hK39 K39
  refine FW.ret (?_)
  refine ret_tmp (v := Value.bool true) Try.results50 (.inl rfl) rfl ?_
  refine FWl.val 21 rfl rfl (Value.bool true) _ (r_assign) ?_
  refine FWl.nil (hK37 _ _ ?_)
  clear hK37 K37
  refine FW.cond true rfl (fun _ => ?_) (fun h => nomatch h)
  refine FW.seq_k fun K40 hK40 => ?_
  refine FW.seq_k fun K41 hK41 => ?_
  refine FW.region rfl ?_
  refine FWl.val 24 rfl rfl (Value.pointer (some ⟨g13, 0, none⟩)) _ (r_move) ?_
  refine FWl.val 25 rfl rfl (Value.pointer (some ⟨g13, 0, none⟩)) _ (r_nilCheck rfl) ?_
  refine FWl.val 26 rfl rfl (Value.pointer (some ⟨g13, 2, none⟩)) _ (r_fieldAddrS Try.underlying73 rfl Try.sizeOf26 rfl rfl rfl rfl) ?_
  refine FWl.val 27 rfl rfl (Value.slice A272 (([(⟨2, [(⟨(⟨#[98]⟩ : ByteArray), false⟩ : Line)]⟩ : Edit)]).length) c273) _ (r_load1 Try.isAgg26 rfl (st15_429.cell rfl)) ?_
  refine FWl.val 28 rfl rfl (Value.int .i64 1) _ (r_lenSl Try.underlying26 rfl) ?_
  refine FWl.val 29 rfl rfl (Value.bool false) _ (r_eql (a := 1) (b := 0) rfl rfl) ?_
  refine FWl.nil (hK41 _ _ ?_)
  clear hK41 K41
  refine FW.cond false rfl (fun h => nomatch h) (fun _ => ?_)
  refine FW.skip (hK40 _ _ ?_)
  clear hK40 K40
  refine FW.regionDraw mixed (SS C425 (Nb A272 (([(⟨2, [(⟨(⟨#[98]⟩ : ByteArray), false⟩ : Line)]⟩ : Edit)]).length) c273) w413.drew) [15] [(0, true), (1, true), (2, true), (3, true), (4, true), (5, true), (6, true), (7, false), (8, false), (9, false), (10, false), (11, false), (12, false), (13, false), (14, false), (15, false)] rfl (by kernel_rfl) ?_
  have e456 : Ext w413.heap.size w413 C425 w413.drew C425 := (Ext.refl hH433).drew
  generalize w413.drew = w455 at *
  have hE_457 := hE_428.step e456
  have st15_458 := st15_429.call e456
  have ho224_459 := ho224_430.call e456
  have ow277_460 := ow277_431.call e456
  have hm12_461 := hm12_432.call e456
  have hH462 := e456.has
  have hS463 : SS C425 (Nb A272 (([(⟨2, [(⟨(⟨#[98]⟩ : ByteArray), false⟩ : Line)]⟩ : Edit)]).length) c273) w455 w455 := SS.refl hH462
  have hle464 := Gle.refl C425
  refine FWs.take rfl 32 rfl rfl (Value.pointer (some ⟨g13, 0, none⟩)) hS463 (fun _ _ => r_move) ?_
  refine FWs.take rfl 33 rfl rfl (Value.pointer (some ⟨g13, 0, none⟩)) hS463 (fun _ _ => r_move) ?_
  refine FWs.take rfl 34 rfl rfl (Value.pointer (some ⟨g13, 0, none⟩)) hS463 (fun _ _ => r_nilCheck rfl) ?_
  refine FWs.take rfl 35 rfl rfl (Value.pointer (some ⟨g13, 2, none⟩)) hS463 (fun _ _ => r_fieldAddrS Try.underlying73 rfl Try.sizeOf26 rfl rfl rfl rfl) ?_
  refine FWs.take rfl 36 rfl rfl (Value.slice A272 (([(⟨2, [(⟨(⟨#[98]⟩ : ByteArray), false⟩ : Line)]⟩ : Edit)]).length) c273) hS463 (fun _ hS' => r_load1 Try.isAgg26 rfl (hS'.cell st15_458 (ow277_460.nbT st15_458 (by decide)) rfl)) ?_
  refine FWs.take rfl 37 rfl rfl (Value.pointer (some ⟨g370, 0, none⟩)) hS463 (fun _ _ => r_fieldAddrS Try.underlying57 rfl Try.sizeOf55 rfl rfl rfl rfl) ?_
  refine FWs.take rfl 38 rfl rfl (Value.int .i64 3) hS463 (fun _ hS' => r_loadP1 Try.isAgg55 hcg385_454 rfl rfl hS'.has) ?_
  refine FWs.val rfl 39 rfl rfl (Value.pointer (some ⟨g370, 1, none⟩)) _ (r_fieldAddrS Try.underlying57 rfl Try.sizeOf22 rfl rfl rfl rfl) (.inr hS463) ?_
  refine FWs.val rfl 40 rfl rfl (Value.slice A317 (([(⟨(⟨#[99]⟩ : ByteArray), false⟩ : Line)]).length) c318) _ (r_loadP1 Try.isAgg22 hcg385_454 rfl rfl hH462) (.inr hS463) ?_
  refine FWs.call rfl 41 rfl rfl 52 #[Value.slice A317 (([(⟨(⟨#[99]⟩ : ByteArray), false⟩ : Line)]).length) c318] (r_call1 Try.call52 rfl rfl) ((cloneLine_c hH462 hs319_452 (by simp)).mono ?_)
  rintro _ w465 ⟨C466, A468, c469, rfl, e467, hs470, ho471⟩
  have hE_472 := hE_457.step e467
  have st15_473 := st15_458.call e467
  have ho224_474 := ho224_459.call e467
  have ow277_475 := ow277_460.call e467
  have hm12_476 := hm12_461.call e467
  have hle477 := hle464.trans e467.le
  have hs11_480 := hs11_436.mono e467.le
  have hg25_481 := hg25_437.mono e467.le
  have hg112_486 := hg112_442.mono e467.le
  have hs276_494 := hs276_450.mono e467.le
  have hg316_495 := hg316_451.mono e467.le
  have hH500 := e467.has
  have hS501 := hS463.step e467
  have ho502 := ho471.lower hE_457.size
  have nb503 : Nb2 _ _ _ _ _ _ := nb2_new ho224_459 ho471
  have nb504 : Nb2 _ _ _ _ _ _ := nb2_new ow277_460 ho471
  refine ⟨(.inr hS501), ?_⟩
  refine FWs.val rfl 42 rfl rfl (Value.agg #[Value.int .i64 3, Value.slice A468 (([(⟨(⟨#[99]⟩ : ByteArray), false⟩ : Line)]).length) c469]) _ (r_build (by kernel_rfl)) (.inr hS501) ?_
  refine FWs.lit (K := kEdit) (xs := [(⟨3, [(⟨(⟨#[99]⟩ : ByteArray), false⟩ : Line)]⟩ : Edit)]) (cs := [Value.int .i64 3, Value.slice A468 (([(⟨(⟨#[99]⟩ : ByteArray), false⟩ : Line)]).length) c469]) rfl rfl rfl rfl Try.underlying26 info57 zero57 rfl (by kernel_rfl) (.cons (cs := [Value.int .i64 3, Value.slice A468 (([(⟨(⟨#[99]⟩ : ByteArray), false⟩ : Line)]).length) c469]) (kEdit_mk hs470) .nil) rfl hH500 ?_
  intro A505 w506 C507 hs508 e509 hcg510
  have hE_511 := hE_472.step e509
  have st15_512 := st15_473.call e509
  have ho224_513 := ho224_474.call e509
  have ow277_514 := ow277_475.call e509
  have ho471_515 := ho502.call e509
  have hm12_516 := hm12_476.call e509
  have hle517 := hle477.trans e509.le
  have hs11_520 := hs11_480.mono e509.le
  have hg25_521 := hg25_481.mono e509.le
  have hg112_526 := hg112_486.mono e509.le
  have hs276_534 := hs276_494.mono e509.le
  have hg316_535 := hg316_495.mono e509.le
  have hH541 := e509.has
  have hS542 := hS501.step e509
  refine ⟨(.inr hS542), ?_⟩
  refine FWs.app (K := kEdit) (B := w.heap.size) (xs := [(⟨2, [(⟨(⟨#[98]⟩ : ByteArray), false⟩ : Line)]⟩ : Edit)]) (ys := [(⟨3, [(⟨(⟨#[99]⟩ : ByteArray), false⟩ : Line)]⟩ : Edit)]) (sz := 2) (bytes := 32) rfl rfl rfl rfl Try.underlying26 info57 zero57 rfl rfl rfl rfl rfl rfl rfl hs276_534 ow277_514 hs508 hH541 hE_511.size (by simp only [List.length_cons, List.length_nil]; omega) (by simp only [List.length_cons, List.length_nil]; omega) ?_
  intro A543 c544 w545 C546 hs547 ow548 e549 ap550
  have hE_551 := hE_511.trans e549
  have hm12_552 := hm12_516.app ap550 ow277_514 (by decide)
  have st15_553 := st15_512.app ap550 (ow277_514.nbT st15_512 (by decide))
  have ho224_555 := ho224_513.app ap550 (ow277_514.nb2T ho224_513 (by decide))
  have ho471_557 := ho471_515.app ap550 (ow277_514.nb2T ho471_515 (by decide))
  have hle558 := hle517.trans e549.le
  have hs11_561 := hs11_520.mono e549.le
  have hg25_562 := hg25_521.mono e549.le
  have hg112_567 := hg112_526.mono e549.le
  have hg316_576 := hg316_535.mono e549.le
  have hH584 := e549.has
  have hS585 := hS542.app ap550 hH584 hle558 (fun _ h => h)
  refine ⟨(.inr hS585), ?_⟩
  refine FWs.val rfl 45 rfl rfl (Value.pointer (some ⟨g13, 0, none⟩)) _ (r_nilCheck rfl) (.inr hS585) ?_
  refine FWs.val rfl 46 rfl rfl (Value.pointer (some ⟨g13, 2, none⟩)) _ (r_fieldAddrS Try.underlying73 rfl Try.sizeOf26 rfl rfl rfl rfl) (.inr hS585) ?_
  refine FWs.store (vs := [Value.slice A543 (([(⟨2, [(⟨(⟨#[98]⟩ : ByteArray), false⟩ : Line)]⟩ : Edit), (⟨3, [(⟨(⟨#[99]⟩ : ByteArray), false⟩ : Line)]⟩ : Edit)]).length) c544]) (cs' := [Value.int .i64 0, Value.slice none 0 0, Value.slice A543 (([(⟨2, [(⟨(⟨#[98]⟩ : ByteArray), false⟩ : Line)]⟩ : Edit), (⟨3, [(⟨(⟨#[99]⟩ : ByteArray), false⟩ : Line)]⟩ : Edit)]).length) c544, Value.int .i64 0, Value.int .i64 0, Value.slice none 0 0]) rfl rfl rfl rfl Try.sizeOf26 rfl st15_553 hH584 rfl rfl rfl rfl rfl rfl ?_
  intro w586 m587 st15_588
  have hE_589 := hE_551.trans (m587.ext hE_551.size (by omega))
  have ho224_590 := ho224_555.mut m587 (ho224_555.nbT st15_553 (by decide))
  have ho471_591 := ho471_557.mut m587 (ho471_557.nbT st15_553 (by decide))
  have ow548_592 := ow548.mut m587 (ow548.nbT st15_553 (by decide))
  have hm12_593 := hm12_552.other m587 st15_553 (by decide)
  have hH594 := m587.has
  refine ⟨(.inl rfl), ?_⟩
  refine FWs.nil (inBlockF_norm (?_))
  refine ret_none  Try.results28 (.inr rfl) ?_
  refine FWl.nil (hK34 _ _ ?_)
  clear hK34 K34
  refine FW.region rfl ?_
  refine FWl.val 45 rfl rfl (Value.int .i64 3) _ (r_addE (a := 2) (b := 1) rfl rfl (by decide)) ?_
  refine FWl.val 32 rfl rfl (Value.int .i64 3) _ (r_move) ?_
  refine FWl.nil (thenF_round ?_)
  refine FW.seq_k fun K42 hK42 => ?_
  refine FW.region rfl ?_
  refine FWl.val 33 rfl rfl (Value.bool false) _ (r_lss (a := 3) (b := 3) rfl rfl) ?_
  refine FWl.nil (hK42 _ _ ?_)
  clear hK42 K42
  refine FW.seq_k fun K43 hK43 => ?_
  refine FW.cond false rfl (fun h => nomatch h) (fun _ => ?_)
  refine FW.exit (thenF_exit (thenF_exit (inBlockF_hit (hK7 _ _ ?_))))
  clear hK7 K7 hK43 K43
  refine FW.seq_k fun K44 hK44 => ?_
  refine FW.seq_k fun K45 hK45 => ?_
  refine FW.region rfl ?_
  refine FWl.val 46 rfl rfl (Value.pointer (some ⟨g13, 0, none⟩)) _ (r_move) ?_
  refine FWl.val 47 rfl rfl (Value.pointer (some ⟨g13, 0, none⟩)) _ (r_nilCheck rfl) ?_
  refine FWl.val 48 rfl rfl (Value.pointer (some ⟨g13, 2, none⟩)) _ (r_fieldAddrS Try.underlying73 rfl Try.sizeOf26 rfl rfl rfl rfl) ?_
  refine FWl.val 49 rfl rfl (Value.slice A543 (([(⟨2, [(⟨(⟨#[98]⟩ : ByteArray), false⟩ : Line)]⟩ : Edit), (⟨3, [(⟨(⟨#[99]⟩ : ByteArray), false⟩ : Line)]⟩ : Edit)]).length) c544) _ (r_load1 Try.isAgg26 rfl (st15_588.cell rfl)) ?_
  refine FWl.val 50 rfl rfl (Value.int .i64 2) _ (r_lenSl Try.underlying26 rfl) ?_
  refine FWl.val 51 rfl rfl (Value.bool true) _ (r_gtr (a := 2) (b := 0) rfl rfl) ?_
  refine FWl.nil (hK45 _ _ ?_)
  clear hK45 K45
  refine FW.cond true rfl (fun _ => ?_) (fun h => nomatch h)
  refine FW.region rfl ?_
  refine FWl.val 52 rfl rfl (Value.pointer (some ⟨g13, 0, none⟩)) _ (r_move) ?_
  refine FWl.call 53 rfl rfl 29 #[Value.pointer (some ⟨g13, 0, none⟩), Value.slice none 0 0] (r_call2 Try.call29 rfl rfl rfl) (Ret.of Try.func29 rfl Try.ntmps29 rfl ?_)
  refine FW.seq_k fun K46 hK46 => ?_
  refine FW.seq_k fun K47 hK47 => ?_
  refine FW.region rfl ?_
  refine FWl.val 8 rfl rfl (Value.pointer (some ⟨g13, 0, none⟩)) _ (r_move) ?_
  refine FWl.val 9 rfl rfl (Value.pointer (some ⟨g13, 0, none⟩)) _ (r_nilCheck rfl) ?_
  refine FWl.val 10 rfl rfl (Value.pointer (some ⟨g13, 0, none⟩)) _ (r_fieldAddrS Try.underlying73 rfl Try.sizeOf3 rfl rfl rfl rfl) ?_
  refine FWl.val 11 rfl rfl (Value.int .i64 0) _ (r_load1 Try.isAgg3 rfl (st15_588.cell rfl)) ?_
  refine FWl.val 12 rfl rfl (Value.slice none 0 0) _ (r_move) ?_
  refine FWl.val 13 rfl rfl (Value.int .i64 0) _ (r_lenSl Try.underlying22 rfl) ?_
  refine FWl.val 14 rfl rfl (Value.int .i64 0) _ (r_min2E (a := 0) (b := 0) rfl rfl (by decide)) ?_
  refine FWl.val 4 rfl rfl (Value.int .i64 0) _ (r_assign) ?_
  refine FWl.nil (hK47 _ _ ?_)
  clear hK47 K47
  refine FW.seq_k fun K48 hK48 => ?_
  refine FW.region rfl ?_
  refine FWl.val 15 rfl rfl (Value.int .i64 0) _ (r_move) ?_
  refine FWl.val 16 rfl rfl (Value.bool false) _ (r_gtr (a := 0) (b := 0) rfl rfl) ?_
  refine FWl.nil (hK48 _ _ ?_)
  clear hK48 K48
  refine FW.cond false rfl (fun h => nomatch h) (fun _ => ?_)
  refine FW.skip (hK46 _ _ ?_)
  clear hK46 K46
  refine FW.seq_k fun K49 hK49 => ?_
  refine FW.region rfl ?_
  refine FWl.val 32 rfl rfl (Value.pointer (some ⟨g13, 0, none⟩)) _ (r_move) ?_
  refine FWl.val 33 rfl rfl (Value.pointer (some ⟨g13, 0, none⟩)) _ (r_nilCheck rfl) ?_
  refine FWl.val 34 rfl rfl (Value.pointer (some ⟨g13, 2, none⟩)) _ (r_fieldAddrS Try.underlying73 rfl Try.sizeOf26 rfl rfl rfl rfl) ?_
  refine FWl.val 35 rfl rfl (Value.slice A543 (([(⟨2, [(⟨(⟨#[98]⟩ : ByteArray), false⟩ : Line)]⟩ : Edit), (⟨3, [(⟨(⟨#[99]⟩ : ByteArray), false⟩ : Line)]⟩ : Edit)]).length) c544) _ (r_load1 Try.isAgg26 rfl (st15_588.cell rfl)) ?_
  refine FWl.call 36 rfl rfl 20 #[Value.slice A543 (([(⟨2, [(⟨(⟨#[98]⟩ : ByteArray), false⟩ : Line)]⟩ : Edit), (⟨3, [(⟨(⟨#[99]⟩ : ByteArray), false⟩ : Line)]⟩ : Edit)]).length) c544] (r_call1 Try.call20 rfl rfl) ((Sides_c hH594 hs547 ⟨by decide, by decide, by intro x hx; simp at hx; rcases hx with rfl | rfl <;> decide⟩).mono ?_)
  rintro _ w595 ⟨C596, A598, c599, A600, c601, rfl, e597, h602, h603⟩
  have hE_604 := hE_589.step e597
  have st15_605 := st15_588.call e597
  have ho224_606 := ho224_590.call e597
  have ho471_607 := ho471_591.call e597
  have ow548_608 := ow548_592.call e597
  have hm12_609 := hm12_593.call e597
  have hs11_612 := hs11_561.mono e597.le
  have hg25_613 := hg25_562.mono e597.le
  have hg112_618 := hg112_567.mono e597.le
  have hg316_627 := hg316_576.mono e597.le
  have hs547_635 := hs547.mono e597.le
  have hH636 := e597.has
  have hs638 : Sl kLine C596 A598 c599 [(⟨(⟨#[98]⟩ : ByteArray), false⟩ : Line)] := h602.lit (by rfl)
  have hs640 : Sl kLine C596 A600 c601 [(⟨(⟨#[99]⟩ : ByteArray), false⟩ : Line)] := h603.lit (by rfl)
  refine FWl.val 31 rfl rfl (Value.tuple #[Value.slice A598 (([(⟨(⟨#[98]⟩ : ByteArray), false⟩ : Line)]).length) c599, Value.slice A600 (([(⟨(⟨#[99]⟩ : ByteArray), false⟩ : Line)]).length) c601, Value.int .i64 0]) _ (r_move) ?_
  refine FWl.val 37 rfl rfl (Value.slice A598 (([(⟨(⟨#[98]⟩ : ByteArray), false⟩ : Line)]).length) c599) _ (r_extract rfl rfl) ?_
  refine FWl.val 38 rfl rfl (Value.slice A600 (([(⟨(⟨#[99]⟩ : ByteArray), false⟩ : Line)]).length) c601) _ (r_extract rfl rfl) ?_
  refine FWl.val 39 rfl rfl (Value.int .i64 0) _ (r_extract rfl rfl) ?_
  refine FWl.val 5 rfl rfl (Value.slice A598 (([(⟨(⟨#[98]⟩ : ByteArray), false⟩ : Line)]).length) c599) _ (r_assign) ?_
  refine FWl.val 6 rfl rfl (Value.slice A600 (([(⟨(⟨#[99]⟩ : ByteArray), false⟩ : Line)]).length) c601) _ (r_assign) ?_
  refine FWl.val 7 rfl rfl (Value.int .i64 0) _ (r_assign) ?_
  refine FWl.nil (hK49 _ _ ?_)
  clear hK49 K49
  refine FW.seq_k fun K50 hK50 => ?_
  refine FW.regionDraw mixed (SS C596 (NotT 82 w595.drew) w595.drew) [18] [(0, true), (1, true), (2, true), (3, true), (4, true), (5, true), (6, true), (7, true), (8, true), (9, false), (10, false), (11, false), (12, false), (13, false), (14, false), (15, false), (16, false), (17, false), (18, false)] rfl (by kernel_rfl) ?_
  have e642 : Ext w595.heap.size w595 C596 w595.drew C596 := (Ext.refl hH636).drew
  generalize w595.drew = w641 at *
  have hE_643 := hE_604.step e642
  have st15_644 := st15_605.call e642
  have ho224_645 := ho224_606.call e642
  have ho471_646 := ho471_607.call e642
  have ow548_647 := ow548_608.call e642
  have hm12_648 := hm12_609.call e642
  have hH649 := e642.has
  have hS650 : SS C596 (NotT 82 w641) w641 w641 := SS.refl hH649
  have hle651 := Gle.refl C596
  refine FWs.take rfl 40 rfl rfl (Value.pointer (some ⟨g13, 0, none⟩)) hS650 (fun _ _ => r_move) ?_
  refine FWs.take rfl 41 rfl rfl (Value.pointer (some ⟨g13, 0, none⟩)) hS650 (fun _ _ => r_move) ?_
  refine FWs.take rfl 42 rfl rfl (Value.pointer (some ⟨g13, 0, none⟩)) hS650 (fun _ _ => r_nilCheck rfl) ?_
  refine FWs.take rfl 43 rfl rfl (Value.pointer (some ⟨g13, 1, none⟩)) hS650 (fun _ _ => r_fieldAddrS Try.underlying73 rfl Try.sizeOf48 rfl rfl rfl rfl) ?_
  refine FWs.take rfl 44 rfl rfl (Value.slice none 0 0) hS650 (fun _ hS' => r_load1 Try.isAgg48 rfl (hS'.cell st15_644 (st15_644.notT (by decide)) rfl)) ?_
  refine FWs.take rfl 45 rfl rfl (Value.slice A598 (([(⟨(⟨#[98]⟩ : ByteArray), false⟩ : Line)]).length) c599) hS650 (fun _ _ => r_move) ?_
  refine FWs.take rfl 46 rfl rfl (Value.int .i64 1) hS650 (fun _ _ => r_lenSl Try.underlying22 rfl) ?_
  refine FWs.take rfl 47 rfl rfl (Value.slice A600 (([(⟨(⟨#[99]⟩ : ByteArray), false⟩ : Line)]).length) c601) hS650 (fun _ _ => r_move) ?_
  refine FWs.take rfl 48 rfl rfl (Value.int .i64 1) hS650 (fun _ _ => r_lenSl Try.underlying22 rfl) ?_
  refine FWs.val rfl 49 rfl rfl (Value.pointer (some ⟨g13, 0, none⟩)) _ (r_move) (.inr hS650) ?_
  refine FWs.val rfl 50 rfl rfl (Value.pointer (some ⟨g13, 0, none⟩)) _ (r_nilCheck rfl) (.inr hS650) ?_
  refine FWs.val rfl 51 rfl rfl (Value.pointer (some ⟨g13, 2, none⟩)) _ (r_fieldAddrS Try.underlying73 rfl Try.sizeOf26 rfl rfl rfl rfl) (.inr hS650) ?_
  refine FWs.val rfl 52 rfl rfl (Value.slice A543 (([(⟨2, [(⟨(⟨#[98]⟩ : ByteArray), false⟩ : Line)]⟩ : Edit), (⟨3, [(⟨(⟨#[99]⟩ : ByteArray), false⟩ : Line)]⟩ : Edit)]).length) c544) _ (r_load1 Try.isAgg26 rfl (st15_644.cell rfl)) (.inr hS650) ?_
  refine FWs.val rfl 53 rfl rfl (Value.agg #[Value.int .i64 0, Value.int .i64 1, Value.int .i64 0, Value.int .i64 1, Value.slice A543 (([(⟨2, [(⟨(⟨#[98]⟩ : ByteArray), false⟩ : Line)]⟩ : Edit), (⟨3, [(⟨(⟨#[99]⟩ : ByteArray), false⟩ : Line)]⟩ : Edit)]).length) c544]) _ (r_build (by kernel_rfl)) (.inr hS650) ?_
  refine FWs.lit (K := kHunk) (xs := [(⟨0, 1, 0, 1, [(⟨2, [(⟨(⟨#[98]⟩ : ByteArray), false⟩ : Line)]⟩ : Edit), (⟨3, [(⟨(⟨#[99]⟩ : ByteArray), false⟩ : Line)]⟩ : Edit)]⟩ : Hunk)]) (cs := [Value.int .i64 0, Value.int .i64 1, Value.int .i64 0, Value.int .i64 1, Value.slice A543 (([(⟨2, [(⟨(⟨#[98]⟩ : ByteArray), false⟩ : Line)]⟩ : Edit), (⟨3, [(⟨(⟨#[99]⟩ : ByteArray), false⟩ : Line)]⟩ : Edit)]).length) c544]) rfl rfl rfl rfl Try.underlying48 info82 zero82 rfl (by kernel_rfl) (.cons (cs := [Value.int .i64 0, Value.int .i64 1, Value.int .i64 0, Value.int .i64 1, Value.slice A543 (([(⟨2, [(⟨(⟨#[98]⟩ : ByteArray), false⟩ : Line)]⟩ : Edit), (⟨3, [(⟨(⟨#[99]⟩ : ByteArray), false⟩ : Line)]⟩ : Edit)]).length) c544]) (kHunk_mk hs547_635) .nil) rfl hH649 ?_
  intro A652 w653 C654 hs655 e656 hcg657
  have hE_658 := hE_643.step e656
  have st15_659 := st15_644.call e656
  have ho224_660 := ho224_645.call e656
  have ho471_661 := ho471_646.call e656
  have ow548_662 := ow548_647.call e656
  have hm12_663 := hm12_648.call e656
  have hle664 := hle651.trans e656.le
  have hs11_667 := hs11_612.mono e656.le
  have hg25_668 := hg25_613.mono e656.le
  have hg112_673 := hg112_618.mono e656.le
  have hg316_682 := hg316_627.mono e656.le
  have hs547_690 := hs547_635.mono e656.le
  have hH695 := e656.has
  have hS696 := hS650.step e656
  refine ⟨(.inr hS696), ?_⟩
  refine FWs.appM (K := kHunk) (B := w.heap.size) (y := (⟨0, 1, 0, 1, [(⟨2, [(⟨(⟨#[98]⟩ : ByteArray), false⟩ : Line)]⟩ : Edit), (⟨3, [(⟨(⟨#[99]⟩ : ByteArray), false⟩ : Line)]⟩ : Edit)]⟩ : Hunk)) (r := [Value.int .i64 0, Value.int .i64 1, Value.int .i64 0, Value.int .i64 1, Value.slice A543 (([(⟨2, [(⟨(⟨#[98]⟩ : ByteArray), false⟩ : Line)]⟩ : Edit), (⟨3, [(⟨(⟨#[99]⟩ : ByteArray), false⟩ : Line)]⟩ : Edit)]).length) c544]) (sz := 5) (bytes := 56) rfl rfl rfl rfl Try.underlying48 info82 zero82 rfl rfl rfl rfl rfl rfl rfl hm12_663 hcg657 (kHunk_mk hs547_690) hH695 hE_658.size (by simp <;> omega) (by simp <;> omega) ?_
  intro A697 c698 w699 hM700 e701 hts702 hto703 hoth704
  have hE_705 := hE_658.trans e701
  have st15_706 := hts702 _ _ _ st15_659 (by decide)
  have ho224_707 := hto703 _ _ _ _ _ _ ho224_660 (by decide)
  have ho471_708 := hto703 _ _ _ _ _ _ ho471_661 (by decide)
  have ow548_709 := hto703 _ _ _ _ _ _ ow548_662 (by decide)
  have hH710 := e701.has
  have hln_hM700 : (([] : List (List Value)) ++ [[Value.int .i64 0, Value.int .i64 1, Value.int .i64 0, Value.int .i64 1, Value.slice A543 (([(⟨2, [(⟨(⟨#[98]⟩ : ByteArray), false⟩ : Line)]⟩ : Edit), (⟨3, [(⟨(⟨#[99]⟩ : ByteArray), false⟩ : Line)]⟩ : Edit)]).length) c544]]).length = ([] : List (List Value)).length + 1 := by simp
  have hS711 := hS696.appM e701 hH710 hle664 hoth704
  refine ⟨.inr hS711, ?_⟩
  refine FWs.val rfl 56 rfl rfl (Value.pointer (some ⟨g13, 0, none⟩)) _ (r_nilCheck rfl) (.inr hS711) ?_
  refine FWs.val rfl 57 rfl rfl (Value.pointer (some ⟨g13, 1, none⟩)) _ (r_fieldAddrS Try.underlying73 rfl Try.sizeOf48 rfl rfl rfl rfl) (.inr hS711) ?_
  refine FWs.store (vs := [Value.slice A697 ((([] : List (List Value)) ++ [[Value.int .i64 0, Value.int .i64 1, Value.int .i64 0, Value.int .i64 1, Value.slice A543 (([(⟨2, [(⟨(⟨#[98]⟩ : ByteArray), false⟩ : Line)]⟩ : Edit), (⟨3, [(⟨(⟨#[99]⟩ : ByteArray), false⟩ : Line)]⟩ : Edit)]).length) c544]]).length) c698]) (cs' := [Value.int .i64 0, Value.slice A697 ((([] : List (List Value)) ++ [[Value.int .i64 0, Value.int .i64 1, Value.int .i64 0, Value.int .i64 1, Value.slice A543 (([(⟨2, [(⟨(⟨#[98]⟩ : ByteArray), false⟩ : Line)]⟩ : Edit), (⟨3, [(⟨(⟨#[99]⟩ : ByteArray), false⟩ : Line)]⟩ : Edit)]).length) c544]]).length) c698, Value.slice A543 (([(⟨2, [(⟨(⟨#[98]⟩ : ByteArray), false⟩ : Line)]⟩ : Edit), (⟨3, [(⟨(⟨#[99]⟩ : ByteArray), false⟩ : Line)]⟩ : Edit)]).length) c544, Value.int .i64 0, Value.int .i64 0, Value.slice none 0 0]) rfl rfl rfl rfl Try.sizeOf48 rfl st15_706 hH710 rfl rfl rfl rfl rfl rfl ?_
  intro w712 m713 st15_714
  have hE_715 := hE_705.trans (m713.ext hE_705.size (by omega))
  have hm12_719 := hM700.other m713 st15_706 (by decide)
  have hH720 := m713.has
  refine ⟨(.inl rfl), ?_⟩
  refine FWs.nil (hK50 _ _ ?_)
  clear hK50 K50
  refine FW.region rfl ?_
  refine FWl.val 58 rfl rfl (Value.pointer (some ⟨g13, 0, none⟩)) _ (r_move) ?_
  refine FWl.val 59 rfl rfl (Value.pointer (some ⟨g13, 0, none⟩)) _ (r_nilCheck rfl) ?_
  refine FWl.val 60 rfl rfl (Value.pointer (some ⟨g13, 2, none⟩)) _ (r_fieldAddrS Try.underlying73 rfl Try.sizeOf26 rfl rfl rfl rfl) ?_
  refine FWl.store (vs := [Value.slice none 0 0]) (cs' := [Value.int .i64 0, Value.slice A697 ((([] : List (List Value)) ++ [[Value.int .i64 0, Value.int .i64 1, Value.int .i64 0, Value.int .i64 1, Value.slice A543 (([(⟨2, [(⟨(⟨#[98]⟩ : ByteArray), false⟩ : Line)]⟩ : Edit), (⟨3, [(⟨(⟨#[99]⟩ : ByteArray), false⟩ : Line)]⟩ : Edit)]).length) c544]]).length) c698, Value.slice none 0 0, Value.int .i64 0, Value.int .i64 0, Value.slice none 0 0]) rfl rfl rfl Try.sizeOf26 rfl st15_714 hH720 rfl rfl rfl rfl rfl rfl ?_
  intro w721 m722 st15_723
  have hE_724 := hE_715.trans (m722.ext hE_715.size (by omega))
  have hm12_728 := hm12_719.other m722 st15_714 (by decide)
  have hH729 := m722.has
  refine FWl.nil (?_)
  refine ret_none  Try.results29 (.inr rfl) ?_
  refine FWl.nil (hK44 _ _ ?_)
  clear hK44 K44
  refine FW.seq_k fun K51 hK51 => ?_
  refine FW.region rfl ?_
  refine FWl.val 54 rfl rfl (Value.slice A4 (([(⟨1, [(⟨(⟨#[97]⟩ : ByteArray), false⟩ : Line)]⟩ : Edit), (⟨2, [(⟨(⟨#[98]⟩ : ByteArray), false⟩ : Line)]⟩ : Edit), (⟨3, [(⟨(⟨#[99]⟩ : ByteArray), false⟩ : Line)]⟩ : Edit)]).length) c5) _ (r_move) ?_
  refine FWl.val 55 rfl rfl (Value.pointer (some ⟨g13, 0, none⟩)) _ (r_move) ?_
  refine FWl.val 56 rfl rfl (Value.pointer (some ⟨g13, 0, none⟩)) _ (r_nilCheck rfl) ?_
  refine FWl.val 57 rfl rfl (Value.pointer (some ⟨g13, 1, none⟩)) _ (r_fieldAddrS Try.underlying73 rfl Try.sizeOf48 rfl rfl rfl rfl) ?_
  refine FWl.val 58 rfl rfl (Value.slice A697 ((([] : List (List Value)) ++ [[Value.int .i64 0, Value.int .i64 1, Value.int .i64 0, Value.int .i64 1, Value.slice A543 (([(⟨2, [(⟨(⟨#[98]⟩ : ByteArray), false⟩ : Line)]⟩ : Edit), (⟨3, [(⟨(⟨#[99]⟩ : ByteArray), false⟩ : Line)]⟩ : Edit)]).length) c544]]).length) c698) _ (r_load1 Try.isAgg48 rfl (st15_723.cell rfl)) ?_
  refine FWl.val 59 rfl rfl (Value.int .i64 0) _ (r_move) ?_
  refine FWl.call 60 rfl rfl 30 #[Value.slice A4 (([(⟨1, [(⟨(⟨#[97]⟩ : ByteArray), false⟩ : Line)]⟩ : Edit), (⟨2, [(⟨(⟨#[98]⟩ : ByteArray), false⟩ : Line)]⟩ : Edit), (⟨3, [(⟨(⟨#[99]⟩ : ByteArray), false⟩ : Line)]⟩ : Edit)]).length) c5, Value.slice A697 ((([] : List (List Value)) ++ [[Value.int .i64 0, Value.int .i64 1, Value.int .i64 0, Value.int .i64 1, Value.slice A543 (([(⟨2, [(⟨(⟨#[98]⟩ : ByteArray), false⟩ : Line)]⟩ : Edit), (⟨3, [(⟨(⟨#[99]⟩ : ByteArray), false⟩ : Line)]⟩ : Edit)]).length) c544]]).length) c698, Value.int .i64 0] (r_call3 Try.call30 rfl rfl rfl rfl) (Ret.of Try.func30 rfl Try.ntmps30 rfl ?_)
  refine FW.seq_k fun K52 hK52 => ?_
  refine FW.region rfl ?_
  refine FWl.val 6 rfl rfl (Value.int .i64 0) _ (r_assign) ?_
  refine FWl.val 7 rfl rfl (Value.int .i64 0) _ (r_assign) ?_
  refine FWl.val 8 rfl rfl (Value.int .i64 0) _ (r_assign) ?_
  refine FWl.nil (hK52 _ _ ?_)
  clear hK52 K52
  refine FW.seq_k fun K53 hK53 => ?_
  refine FW.region rfl ?_
  refine FWl.val 9 rfl rfl (Value.bool true) _ (r_assign) ?_
  refine FWl.nil (hK53 _ _ ?_)
  clear hK53 K53
  refine FW.seq_k fun K54 hK54 => ?_
  refine FW.region rfl ?_
  refine FWl.val 15 rfl rfl (Value.slice A4 (([(⟨1, [(⟨(⟨#[97]⟩ : ByteArray), false⟩ : Line)]⟩ : Edit), (⟨2, [(⟨(⟨#[98]⟩ : ByteArray), false⟩ : Line)]⟩ : Edit), (⟨3, [(⟨(⟨#[99]⟩ : ByteArray), false⟩ : Line)]⟩ : Edit)]).length) c5) _ (r_move) ?_
  refine FWl.val 16 rfl rfl (Value.int .i64 3) _ (r_lenSl Try.underlying26 rfl) ?_
  refine FWl.val 17 rfl rfl (Value.int .i64 0) _ (r_move) ?_
  refine FWl.nil (hK54 _ _ ?_)
  clear hK54 K54
  refine FW.block ?_
  refine FW.loop_in (FWL.unroll ?_)
  refine FW.seq_k fun K55 hK55 => ?_
  refine FW.region rfl ?_
  refine FWl.val 18 rfl rfl (Value.bool true) _ (r_lss (a := 0) (b := 3) rfl rfl) ?_
  refine FWl.nil (hK55 _ _ ?_)
  clear hK55 K55
  refine FW.seq_k fun K56 hK56 => ?_
  refine FW.cond true rfl (fun _ => ?_) (fun h => nomatch h)
  refine FW.skip (hK56 _ _ ?_)
  clear hK56 K56
  refine FW.seq_k fun K57 hK57 => ?_
  refine FW.block ?_
  refine FW.seq_k fun K58 hK58 => ?_
  refine FW.region rfl ?_
  refine FWl.val 19 rfl rfl (Value.int .i64 0) _ (r_move) ?_
  refine FWl.val 20 rfl rfl (ptrAt A4 ((0 : Int).toNat * 2)) _ (r_indexAddr Try.underlying26 Try.sizeOf57 rfl rfl (hs11_667.isSome (by simp)) (by omega) (by simp)) ?_
  refine FWl.val 21 rfl rfl (Value.agg #[Value.int .i64 1, Value.slice A26 (([(⟨(⟨#[97]⟩ : ByteArray), false⟩ : Line)]).length) c27]) _ (r_loadGN Try.isAgg57 Try.sizeOf57 hg25_668 rfl hH729) ?_
  refine FWl.alloc (cs := [Value.int .i64 0, Value.slice none 0 0]) rfl rfl rfl Try.zeroValue57 rfl hH729 ?_
  intro g730 w731 st732 e733 hg734
  have hge_st732_hE := Nat.le_trans hE_724.size (Nat.le_of_eq hg734)
  have hE_735 := hE_724.step e733
  have st15_736 := st15_723.call e733
  have hm12_740 := hm12_728.call e733
  have hH741 := e733.has
  have hlt_st732 := st732.lt
  refine FWl.val 10 rfl rfl (Value.int .i64 0) _ (r_assign) ?_
  refine FWl.store (vs := [Value.int .i64 1, Value.slice A26 (([(⟨(⟨#[97]⟩ : ByteArray), false⟩ : Line)]).length) c27]) (cs' := [Value.int .i64 1, Value.slice A26 (([(⟨(⟨#[97]⟩ : ByteArray), false⟩ : Line)]).length) c27]) rfl rfl rfl Try.sizeOf57 rfl st732 hH741 rfl rfl rfl rfl rfl rfl ?_
  intro w745 m746 st732_747
  have hE_748 := hE_735.trans (m746.ext hE_735.size (by omega))
  have st15_749 := st15_736.other m746 (st15_736.ne_type st732 (by decide))
  have hm12_753 := hm12_740.other m746 st732 (by decide)
  have hH754 := m746.has
  obtain ⟨C755, m756, hcg757⟩ := st732_747.commit hH754
  have hE_758 := hE_748.trans (m756.ext hE_748.size (by omega))
  have st15_759 := st15_749.other m756 (st15_749.ne_type st732_747 (by decide))
  have hm12_763 := hm12_753.other m756 st732_747 (by decide)
  have hH764 := m756.has
  have hs11_767 := hs11_667.mono m756.le
  have hg112_773 := hg112_673.mono m756.le
  have hg316_782 := hg316_682.mono m756.le
  have hs547_790 := hs547_690.mono m756.le
  refine FWl.nil (hK58 _ _ ?_)
  clear hK58 K58
  refine FW.seq_k fun K59 hK59 => ?_
  refine FW.region rfl ?_
  refine FWl.val 22 rfl rfl (Value.pointer (some ⟨g730, 1, none⟩)) _ (r_fieldAddrS Try.underlying57 rfl Try.sizeOf22 rfl rfl rfl rfl) ?_
  refine FWl.val 23 rfl rfl (Value.slice A26 (([(⟨(⟨#[97]⟩ : ByteArray), false⟩ : Line)]).length) c27) _ (r_loadP1 Try.isAgg22 hcg757 rfl rfl hH764) ?_
  refine FWl.val 24 rfl rfl (Value.int .i64 1) _ (r_lenSl Try.underlying22 rfl) ?_
  refine FWl.val 12 rfl rfl (Value.int .i64 1) _ (r_assign) ?_
  refine FWl.nil (hK59 _ _ ?_)
  clear hK59 K59
  refine FW.seq_k fun K60 hK60 => ?_
  refine FW.seq_k fun K61 hK61 => ?_
  refine FW.region rfl ?_
  refine FWl.val 25 rfl rfl (Value.agg #[Value.int .i64 1, Value.slice A26 (([(⟨(⟨#[97]⟩ : ByteArray), false⟩ : Line)]).length) c27]) _ (r_loadPN Try.isAgg57 Try.sizeOf57 hcg757 rfl hH764) ?_
  refine FWl.call 26 rfl rfl 50 #[Value.agg #[Value.int .i64 1, Value.slice A26 (([(⟨(⟨#[97]⟩ : ByteArray), false⟩ : Line)]).length) c27]] (r_call1 Try.call50 rfl rfl) (Ret.of Try.func50 rfl Try.ntmps50 rfl ?_)
  refine FW.seq_k fun K62 hK62 => ?_
  refine FW.region rfl ?_
  refine FWl.box (cs := [Value.int .i64 1, Value.slice A26 (([(⟨(⟨#[97]⟩ : ByteArray), false⟩ : Line)]).length) c27]) rfl rfl rfl rfl rfl hH764 ?_
  intro g797 w798 st799 e800 hg801
  have hge_st799_hE := Nat.le_trans hE_758.size (Nat.le_of_eq hg801)
  have hE_802 := hE_758.step e800
  have st15_803 := st15_759.call e800
  have hm12_807 := hm12_763.call e800
  have hH808 := e800.has
  have hlt_st799 := st799.lt
  obtain ⟨C812, m813, hcg814⟩ := st799.commit hH808
  have hE_815 := hE_802.trans (m813.ext hE_802.size (by omega))
  have st15_816 := st15_803.other m813 (st15_803.ne_type st799 (by decide))
  have hm12_820 := hm12_807.other m813 st799 (by decide)
  have hH821 := m813.has
  have hs11_824 := hs11_767.mono m813.le
  have hg112_830 := hg112_773.mono m813.le
  have hg316_839 := hg316_782.mono m813.le
  have hs547_847 := hs547_790.mono m813.le
  have hcg757_854 := hcg757.mono m813.le
  refine FWl.val 2 rfl rfl (Value.bool false) _ (r_assign) ?_
  refine FWl.nil (hK62 _ _ ?_)
  clear hK62 K62
  refine FW.seq_k fun K63 hK63 => ?_
  refine FW.region rfl ?_
  refine FWl.val 3 rfl rfl (Value.pointer (some ⟨g797, 0, none⟩)) _ (r_fieldAddrS Try.underlying57 rfl Try.sizeOf55 rfl rfl rfl rfl) ?_
  refine FWl.val 4 rfl rfl (Value.int .i64 1) _ (r_loadP1 Try.isAgg55 hcg814 rfl rfl hH821) ?_
  refine FWl.val 5 rfl rfl (Value.bool false) _ (r_neq (a := 1) (b := 1) rfl rfl) ?_
  refine FWl.val 2 rfl rfl (Value.bool false) _ (r_assign) ?_
  refine FWl.nil (hK63 _ _ ?_)
  clear hK63 K63
  refine FW.ret (?_)
  refine ret_tmp (v := Value.bool false) Try.results50 (.inl rfl) rfl ?_
  refine FWl.val 27 rfl rfl (Value.bool false) _ (r_move) ?_
  refine FWl.skip 28 rfl rfl ?_
  refine FWl.val 29 rfl rfl (Value.bool false) _ (r_pick (t := false) rfl) ?_
  refine FWl.nil (hK61 _ _ ?_)
  clear hK61 K61
  refine FW.cond false rfl (fun h => nomatch h) (fun _ => ?_)
  refine FW.skip (hK60 _ _ ?_)
  clear hK60 K60
  refine FW.seq_k fun K64 hK64 => ?_
  refine FW.seq_k fun K65 hK65 => ?_
  refine FW.region rfl ?_
  refine FWl.val 59 rfl rfl (Value.agg #[Value.int .i64 1, Value.slice A26 (([(⟨(⟨#[97]⟩ : ByteArray), false⟩ : Line)]).length) c27]) _ (r_loadPN Try.isAgg57 Try.sizeOf57 hcg757_854 rfl hH821) ?_
  refine FWl.call 60 rfl rfl 50 #[Value.agg #[Value.int .i64 1, Value.slice A26 (([(⟨(⟨#[97]⟩ : ByteArray), false⟩ : Line)]).length) c27]] (r_call1 Try.call50 rfl rfl) (Ret.of Try.func50 rfl Try.ntmps50 rfl ?_)
  refine FW.seq_k fun K66 hK66 => ?_
  refine FW.region rfl ?_
  refine FWl.box (cs := [Value.int .i64 1, Value.slice A26 (([(⟨(⟨#[97]⟩ : ByteArray), false⟩ : Line)]).length) c27]) rfl rfl rfl rfl rfl hH821 ?_
  intro g855 w856 st857 e858 hg859
  have hge_st857_hE := Nat.le_trans hE_815.size (Nat.le_of_eq hg859)
  have hE_860 := hE_815.step e858
  have st15_861 := st15_816.call e858
  have hm12_865 := hm12_820.call e858
  have hH866 := e858.has
  have hlt_st857 := st857.lt
  obtain ⟨C870, m871, hcg872⟩ := st857.commit hH866
  have hE_873 := hE_860.trans (m871.ext hE_860.size (by omega))
  have st15_874 := st15_861.other m871 (st15_861.ne_type st857 (by decide))
  have hm12_878 := hm12_865.other m871 st857 (by decide)
  have hH879 := m871.has
  have hs11_882 := hs11_824.mono m871.le
  have hg112_888 := hg112_830.mono m871.le
  have hg316_897 := hg316_839.mono m871.le
  have hs547_905 := hs547_847.mono m871.le
  have hcg757_912 := hcg757_854.mono m871.le
  refine FWl.val 2 rfl rfl (Value.bool false) _ (r_assign) ?_
  refine FWl.nil (hK66 _ _ ?_)
  clear hK66 K66
  refine FW.seq_k fun K67 hK67 => ?_
  refine FW.region rfl ?_
  refine FWl.val 3 rfl rfl (Value.pointer (some ⟨g855, 0, none⟩)) _ (r_fieldAddrS Try.underlying57 rfl Try.sizeOf55 rfl rfl rfl rfl) ?_
  refine FWl.val 4 rfl rfl (Value.int .i64 1) _ (r_loadP1 Try.isAgg55 hcg872 rfl rfl hH879) ?_
  refine FWl.val 5 rfl rfl (Value.bool false) _ (r_neq (a := 1) (b := 1) rfl rfl) ?_
  refine FWl.val 2 rfl rfl (Value.bool false) _ (r_assign) ?_
  refine FWl.nil (hK67 _ _ ?_)
  clear hK67 K67
  refine FW.ret (?_)
  refine ret_tmp (v := Value.bool false) Try.results50 (.inl rfl) rfl ?_
  refine FWl.val 61 rfl rfl (Value.bool true) _ (r_not (b := false) rfl) ?_
  refine FWl.val 62 rfl rfl (Value.bool true) _ (r_move) ?_
  refine FWl.val 63 rfl rfl (Value.int .i64 0) _ (r_move) ?_
  refine FWl.val 64 rfl rfl (Value.bool false) _ (r_gtr (a := 0) (b := 0) rfl rfl) ?_
  refine FWl.val 65 rfl rfl (Value.bool false) _ (r_pick (t := true) rfl) ?_
  refine FWl.val 66 rfl rfl (Value.bool false) _ (r_move) ?_
  refine FWl.skip 67 rfl rfl ?_
  refine FWl.skip 68 rfl rfl ?_
  refine FWl.skip 69 rfl rfl ?_
  refine FWl.skip 70 rfl rfl ?_
  refine FWl.val 71 rfl rfl (Value.bool false) _ (r_pick (t := false) rfl) ?_
  refine FWl.nil (hK65 _ _ ?_)
  clear hK65 K65
  refine FW.cond false rfl (fun h => nomatch h) (fun _ => ?_)
  refine FW.skip (hK64 _ _ ?_)
  clear hK64 K64
  refine FW.seq_k fun K68 hK68 => ?_
  refine FW.seq_k fun K69 hK69 => ?_
  refine FW.region rfl ?_
  refine FWl.val 72 rfl rfl (Value.pointer (some ⟨g730, 0, none⟩)) _ (r_fieldAddrS Try.underlying57 rfl Try.sizeOf55 rfl rfl rfl rfl) ?_
  refine FWl.val 73 rfl rfl (Value.int .i64 1) _ (r_loadP1 Try.isAgg55 hcg757_912 rfl rfl hH879) ?_
  refine FWl.val 74 rfl rfl (Value.bool true) _ (r_neq (a := 1) (b := 3) rfl rfl) ?_
  refine FWl.nil (hK69 _ _ ?_)
  clear hK69 K69
  refine FW.cond true rfl (fun _ => ?_) (fun h => nomatch h)
  refine FW.region rfl ?_
  refine FWl.val 75 rfl rfl (Value.int .i64 0) _ (r_move) ?_
  refine FWl.val 76 rfl rfl (Value.int .i64 1) _ (r_move) ?_
  refine FWl.val 77 rfl rfl (Value.int .i64 1) _ (r_addE (a := 0) (b := 1) rfl rfl (by decide)) ?_
  refine FWl.val 6 rfl rfl (Value.int .i64 1) _ (r_assign) ?_
  refine FWl.nil (hK68 _ _ ?_)
  clear hK68 K68
  refine FW.seq_k fun K70 hK70 => ?_
  refine FW.region rfl ?_
  refine FWl.val 78 rfl rfl (Value.pointer (some ⟨g730, 0, none⟩)) _ (r_fieldAddrS Try.underlying57 rfl Try.sizeOf55 rfl rfl rfl rfl) ?_
  refine FWl.val 79 rfl rfl (Value.int .i64 1) _ (r_loadP1 Try.isAgg55 hcg757_912 rfl rfl hH879) ?_
  refine FWl.val 80 rfl rfl (Value.bool true) _ (r_neq (a := 1) (b := 2) rfl rfl) ?_
  refine FWl.nil (hK70 _ _ ?_)
  clear hK70 K70
  refine FW.cond true rfl (fun _ => ?_) (fun h => nomatch h)
  refine FW.region rfl ?_
  refine FWl.val 81 rfl rfl (Value.int .i64 0) _ (r_move) ?_
  refine FWl.val 82 rfl rfl (Value.int .i64 1) _ (r_move) ?_
  refine FWl.val 83 rfl rfl (Value.int .i64 1) _ (r_addE (a := 0) (b := 1) rfl rfl (by decide)) ?_
  refine FWl.val 7 rfl rfl (Value.int .i64 1) _ (r_assign) ?_
  refine FWl.nil (hK57 _ _ ?_)
  clear hK57 K57
  refine FW.region rfl ?_
  refine FWl.val 84 rfl rfl (Value.int .i64 1) _ (r_addE (a := 0) (b := 1) rfl rfl (by decide)) ?_
  refine FWl.val 17 rfl rfl (Value.int .i64 1) _ (r_move) ?_
  refine FWl.nil (thenF_round ?_)
  refine FW.seq_k fun K71 hK71 => ?_
  refine FW.region rfl ?_
  refine FWl.val 18 rfl rfl (Value.bool true) _ (r_lss (a := 1) (b := 3) rfl rfl) ?_
  refine FWl.nil (hK71 _ _ ?_)
  clear hK71 K71
  refine FW.seq_k fun K72 hK72 => ?_
  refine FW.cond true rfl (fun _ => ?_) (fun h => nomatch h)
  refine FW.skip (hK72 _ _ ?_)
  clear hK72 K72
  refine FW.seq_k fun K73 hK73 => ?_
  refine FW.block ?_
  refine FW.seq_k fun K74 hK74 => ?_
  refine FW.region rfl ?_
  refine FWl.val 19 rfl rfl (Value.int .i64 1) _ (r_move) ?_
  refine FWl.val 20 rfl rfl (ptrAt A4 ((1 : Int).toNat * 2)) _ (r_indexAddr Try.underlying26 Try.sizeOf57 rfl rfl (hs11_882.isSome (by simp)) (by omega) (by simp)) ?_
  refine FWl.val 21 rfl rfl (Value.agg #[Value.int .i64 2, Value.slice A113 (([(⟨(⟨#[98]⟩ : ByteArray), false⟩ : Line)]).length) c114]) _ (r_loadGN Try.isAgg57 Try.sizeOf57 hg112_888 rfl hH879) ?_
  refine FWl.alloc (cs := [Value.int .i64 0, Value.slice none 0 0]) rfl rfl rfl Try.zeroValue57 rfl hH879 ?_
  intro g914 w915 st916 e917 hg918
  have hge_st916_hE := Nat.le_trans hE_873.size (Nat.le_of_eq hg918)
  have hE_919 := hE_873.step e917
  have st15_920 := st15_874.call e917
  have hm12_924 := hm12_878.call e917
  have hH925 := e917.has
  have hlt_st916 := st916.lt
  refine FWl.val 10 rfl rfl (Value.int .i64 1) _ (r_assign) ?_
  refine FWl.store (vs := [Value.int .i64 2, Value.slice A113 (([(⟨(⟨#[98]⟩ : ByteArray), false⟩ : Line)]).length) c114]) (cs' := [Value.int .i64 2, Value.slice A113 (([(⟨(⟨#[98]⟩ : ByteArray), false⟩ : Line)]).length) c114]) rfl rfl rfl Try.sizeOf57 rfl st916 hH925 rfl rfl rfl rfl rfl rfl ?_
  intro w929 m930 st916_931
  have hE_932 := hE_919.trans (m930.ext hE_919.size (by omega))
  have st15_933 := st15_920.other m930 (st15_920.ne_type st916 (by decide))
  have hm12_937 := hm12_924.other m930 st916 (by decide)
  have hH938 := m930.has
  obtain ⟨C939, m940, hcg941⟩ := st916_931.commit hH938
  have hE_942 := hE_932.trans (m940.ext hE_932.size (by omega))
  have st15_943 := st15_933.other m940 (st15_933.ne_type st916_931 (by decide))
  have hm12_947 := hm12_937.other m940 st916_931 (by decide)
  have hH948 := m940.has
  have hs11_951 := hs11_882.mono m940.le
  have hg316_966 := hg316_897.mono m940.le
  have hs547_974 := hs547_905.mono m940.le
  refine FWl.nil (hK74 _ _ ?_)
  clear hK74 K74
  refine FW.seq_k fun K75 hK75 => ?_
  refine FW.region rfl ?_
  refine FWl.val 22 rfl rfl (Value.pointer (some ⟨g914, 1, none⟩)) _ (r_fieldAddrS Try.underlying57 rfl Try.sizeOf22 rfl rfl rfl rfl) ?_
  refine FWl.val 23 rfl rfl (Value.slice A113 (([(⟨(⟨#[98]⟩ : ByteArray), false⟩ : Line)]).length) c114) _ (r_loadP1 Try.isAgg22 hcg941 rfl rfl hH948) ?_
  refine FWl.val 24 rfl rfl (Value.int .i64 1) _ (r_lenSl Try.underlying22 rfl) ?_
  refine FWl.val 12 rfl rfl (Value.int .i64 1) _ (r_assign) ?_
  refine FWl.nil (hK75 _ _ ?_)
  clear hK75 K75
  refine FW.seq_k fun K76 hK76 => ?_
  refine FW.seq_k fun K77 hK77 => ?_
  refine FW.region rfl ?_
  refine FWl.val 25 rfl rfl (Value.agg #[Value.int .i64 2, Value.slice A113 (([(⟨(⟨#[98]⟩ : ByteArray), false⟩ : Line)]).length) c114]) _ (r_loadPN Try.isAgg57 Try.sizeOf57 hcg941 rfl hH948) ?_
  refine FWl.call 26 rfl rfl 50 #[Value.agg #[Value.int .i64 2, Value.slice A113 (([(⟨(⟨#[98]⟩ : ByteArray), false⟩ : Line)]).length) c114]] (r_call1 Try.call50 rfl rfl) (Ret.of Try.func50 rfl Try.ntmps50 rfl ?_)
  refine FW.seq_k fun K78 hK78 => ?_
  refine FW.region rfl ?_
  refine FWl.box (cs := [Value.int .i64 2, Value.slice A113 (([(⟨(⟨#[98]⟩ : ByteArray), false⟩ : Line)]).length) c114]) rfl rfl rfl rfl rfl hH948 ?_
  intro g984 w985 st986 e987 hg988
  have hge_st986_hE := Nat.le_trans hE_942.size (Nat.le_of_eq hg988)
  have hE_989 := hE_942.step e987
  have st15_990 := st15_943.call e987
  have hm12_994 := hm12_947.call e987
  have hH995 := e987.has
  have hlt_st986 := st986.lt
  obtain ⟨C999, m1000, hcg1001⟩ := st986.commit hH995
  have hE_1002 := hE_989.trans (m1000.ext hE_989.size (by omega))
  have st15_1003 := st15_990.other m1000 (st15_990.ne_type st986 (by decide))
  have hm12_1007 := hm12_994.other m1000 st986 (by decide)
  have hH1008 := m1000.has
  have hs11_1011 := hs11_951.mono m1000.le
  have hg316_1026 := hg316_966.mono m1000.le
  have hs547_1034 := hs547_974.mono m1000.le
  have hcg941_1044 := hcg941.mono m1000.le
  refine FWl.val 2 rfl rfl (Value.bool false) _ (r_assign) ?_
  refine FWl.nil (hK78 _ _ ?_)
  clear hK78 K78
  refine FW.seq_k fun K79 hK79 => ?_
  refine FW.region rfl ?_
  refine FWl.val 3 rfl rfl (Value.pointer (some ⟨g984, 0, none⟩)) _ (r_fieldAddrS Try.underlying57 rfl Try.sizeOf55 rfl rfl rfl rfl) ?_
  refine FWl.val 4 rfl rfl (Value.int .i64 2) _ (r_loadP1 Try.isAgg55 hcg1001 rfl rfl hH1008) ?_
  refine FWl.val 5 rfl rfl (Value.bool true) _ (r_neq (a := 2) (b := 1) rfl rfl) ?_
  refine FWl.val 2 rfl rfl (Value.bool true) _ (r_assign) ?_
  refine FWl.nil (hK79 _ _ ?_)
  clear hK79 K79
  refine FW.ret (?_)
  refine ret_tmp (v := Value.bool true) Try.results50 (.inl rfl) rfl ?_
  refine FWl.val 27 rfl rfl (Value.bool true) _ (r_move) ?_
  refine FWl.val 28 rfl rfl (Value.bool true) _ (r_move) ?_
  refine FWl.val 29 rfl rfl (Value.bool true) _ (r_pick (t := true) rfl) ?_
  refine FWl.nil (hK77 _ _ ?_)
  clear hK77 K77
  refine FW.cond true rfl (fun _ => ?_) (fun h => nomatch h)
  refine FW.seq_k fun K80 hK80 => ?_
  refine FW.region rfl ?_
  refine FWl.val 13 rfl rfl (Value.int .i64 0) _ (r_assign) ?_
  refine FWl.nil (hK80 _ _ ?_)
  clear hK80 K80
  refine FW.seq_k fun K81 hK81 => ?_
  refine FW.seq_k fun K82 hK82 => ?_
  refine FW.region rfl ?_
  refine FWl.val 30 rfl rfl (Value.slice A697 ((([] : List (List Value)) ++ [[Value.int .i64 0, Value.int .i64 1, Value.int .i64 0, Value.int .i64 1, Value.slice A543 (([(⟨2, [(⟨(⟨#[98]⟩ : ByteArray), false⟩ : Line)]⟩ : Edit), (⟨3, [(⟨(⟨#[99]⟩ : ByteArray), false⟩ : Line)]⟩ : Edit)]).length) c544]]).length) c698) _ (r_move) ?_
  refine FWl.val 31 rfl rfl (Value.int .i64 0) _ (r_move) ?_
  have hi1045 : (([] : List (List Value)) ++ [[Value.int .i64 0, Value.int .i64 1, Value.int .i64 0, Value.int .i64 1, Value.slice A543 (([(⟨2, [(⟨(⟨#[98]⟩ : ByteArray), false⟩ : Line)]⟩ : Edit), (⟨3, [(⟨(⟨#[99]⟩ : ByteArray), false⟩ : Line)]⟩ : Edit)]).length) c544]])[(0 : Int).toNat]? = some [Value.int .i64 0, Value.int .i64 1, Value.int .i64 0, Value.int .i64 1, Value.slice A543 (([(⟨2, [(⟨(⟨#[98]⟩ : ByteArray), false⟩ : Line)]⟩ : Edit), (⟨3, [(⟨(⟨#[99]⟩ : ByteArray), false⟩ : Line)]⟩ : Edit)]).length) c544] := last_at (by simp <;> omega)
  refine FWl.val 32 rfl rfl (ptrAt A697 ((0 : Int).toNat * 5)) _ (r_indexAddr Try.underlying48 Try.sizeOf82 rfl rfl (hm12_1007.isSome (by simp)) (by simp <;> omega) (by simp <;> omega)) ?_
  refine FWl.val 33 rfl rfl (ptrAt A697 ((0 : Int).toNat * 5 + 4)) _ (r_fieldAddrAt Try.underlying82 rfl Try.sizeOf26 rfl rfl rfl (hm12_1007.isSome (by simp)) rfl) ?_
  refine FWl.val 34 rfl rfl (Value.slice A543 (([(⟨2, [(⟨(⟨#[98]⟩ : ByteArray), false⟩ : Line)]⟩ : Edit), (⟨3, [(⟨(⟨#[99]⟩ : ByteArray), false⟩ : Line)]⟩ : Edit)]).length) c544) _ (r_loadM1 (j := 4) Try.isAgg26 hm12_1007 hi1045 rfl rfl) ?_
  have hx1047 : ([(⟨2, [(⟨(⟨#[98]⟩ : ByteArray), false⟩ : Line)]⟩ : Edit), (⟨3, [(⟨(⟨#[99]⟩ : ByteArray), false⟩ : Line)]⟩ : Edit)] : List Edit)[(0 : Int).toNat]? = some (⟨2, [(⟨(⟨#[98]⟩ : ByteArray), false⟩ : Line)]⟩ : Edit) := rfl
  obtain ⟨cs1048, hr1049, hg1050⟩ := hs547_1034.at_ _ _ hx1047
  obtain ⟨A1051, c1052, rfl, hs1053⟩ := hr1049
  refine FWl.val 35 rfl rfl (ptrAt A543 ((0 : Int).toNat * 2)) _ (r_indexAddr Try.underlying26 Try.sizeOf57 rfl rfl (hs547_1034.isSome (by simp)) (by omega) (by simp)) ?_
  refine FWl.val 36 rfl rfl (Value.agg #[Value.int .i64 2, Value.slice A1051 (([(⟨(⟨#[98]⟩ : ByteArray), false⟩ : Line)]).length) c1052]) _ (r_loadGN Try.isAgg57 Try.sizeOf57 hg1050 rfl hH1008) ?_
  refine FWl.alloc (cs := [Value.int .i64 0, Value.slice none 0 0]) rfl rfl rfl Try.zeroValue57 rfl hH1008 ?_
  intro g1054 w1055 st1056 e1057 hg1058
  have hge_st1056_hE := Nat.le_trans hE_1002.size (Nat.le_of_eq hg1058)
  have hE_1059 := hE_1002.step e1057
  have st15_1060 := st15_1003.call e1057
  have hm12_1064 := hm12_1007.call e1057
  have hH1065 := e1057.has
  have hlt_st1056 := st1056.lt
  refine FWl.store (vs := [Value.int .i64 2, Value.slice A1051 (([(⟨(⟨#[98]⟩ : ByteArray), false⟩ : Line)]).length) c1052]) (cs' := [Value.int .i64 2, Value.slice A1051 (([(⟨(⟨#[98]⟩ : ByteArray), false⟩ : Line)]).length) c1052]) rfl rfl rfl Try.sizeOf57 rfl st1056 hH1065 rfl rfl rfl rfl rfl rfl ?_
  intro w1069 m1070 st1056_1071
  have hE_1072 := hE_1059.trans (m1070.ext hE_1059.size (by omega))
  have st15_1073 := st15_1060.other m1070 (st15_1060.ne_type st1056 (by decide))
  have hm12_1077 := hm12_1064.other m1070 st1056 (by decide)
  have hH1078 := m1070.has
  obtain ⟨C1079, m1080, hcg1081⟩ := st1056_1071.commit hH1078
  have hE_1082 := hE_1072.trans (m1080.ext hE_1072.size (by omega))
  have st15_1083 := st15_1073.other m1080 (st15_1073.ne_type st1056_1071 (by decide))
  have hm12_1087 := hm12_1077.other m1080 st1056_1071 (by decide)
  have hH1088 := m1080.has
  have hs11_1091 := hs11_1011.mono m1080.le
  have hg316_1106 := hg316_1026.mono m1080.le
  have hs547_1114 := hs547_1034.mono m1080.le
  have hcg941_1124 := hcg941_1044.mono m1080.le
  refine FWl.nil (hK82 _ _ ?_)
  clear hK82 K82
  refine FW.seq_k fun K83 hK83 => ?_
  refine FW.region rfl ?_
  refine FWl.val 37 rfl rfl (Value.pointer (some ⟨g1054, 0, none⟩)) _ (r_fieldAddrS Try.underlying57 rfl Try.sizeOf55 rfl rfl rfl rfl) ?_
  refine FWl.val 38 rfl rfl (Value.int .i64 2) _ (r_loadP1 Try.isAgg55 hcg1081 rfl rfl hH1088) ?_
  refine FWl.val 39 rfl rfl (Value.bool false) _ (r_eql (a := 2) (b := 1) rfl rfl) ?_
  refine FWl.nil (hK83 _ _ ?_)
  clear hK83 K83
  refine FW.cond false rfl (fun h => nomatch h) (fun _ => ?_)
  refine FW.skip (hK81 _ _ ?_)
  clear hK81 K81
  refine FW.seq_k fun K84 hK84 => ?_
  refine FW.region rfl ?_
  refine FWl.val 43 rfl rfl (Value.slice A697 ((([] : List (List Value)) ++ [[Value.int .i64 0, Value.int .i64 1, Value.int .i64 0, Value.int .i64 1, Value.slice A543 (([(⟨2, [(⟨(⟨#[98]⟩ : ByteArray), false⟩ : Line)]⟩ : Edit), (⟨3, [(⟨(⟨#[99]⟩ : ByteArray), false⟩ : Line)]⟩ : Edit)]).length) c544]]).length) c698) _ (r_move) ?_
  refine FWl.val 44 rfl rfl (Value.int .i64 0) _ (r_move) ?_
  refine FWl.val 45 rfl rfl (Value.slice A697 ((([] : List (List Value)) ++ [[Value.int .i64 0, Value.int .i64 1, Value.int .i64 0, Value.int .i64 1, Value.slice A543 (([(⟨2, [(⟨(⟨#[98]⟩ : ByteArray), false⟩ : Line)]⟩ : Edit), (⟨3, [(⟨(⟨#[99]⟩ : ByteArray), false⟩ : Line)]⟩ : Edit)]).length) c544]]).length) c698) _ (r_move) ?_
  refine FWl.val 46 rfl rfl (Value.int .i64 0) _ (r_move) ?_
  refine FWl.val 47 rfl rfl (Value.int .i64 1) _ (r_move) ?_
  refine FWl.val 48 rfl rfl (Value.int .i64 0) _ (r_move) ?_
  refine FWl.val 49 rfl rfl (Value.int .i64 1) _ (r_subE (a := 1) (b := 0) rfl rfl (by decide)) ?_
  refine FWl.val 50 rfl rfl (Value.int .i64 1) _ (r_move) ?_
  refine FWl.val 51 rfl rfl (Value.int .i64 0) _ (r_move) ?_
  refine FWl.val 52 rfl rfl (Value.int .i64 1) _ (r_subE (a := 1) (b := 0) rfl rfl (by decide)) ?_
  have hi1128 : (([] : List (List Value)) ++ [[Value.int .i64 0, Value.int .i64 1, Value.int .i64 0, Value.int .i64 1, Value.slice A543 (([(⟨2, [(⟨(⟨#[98]⟩ : ByteArray), false⟩ : Line)]⟩ : Edit), (⟨3, [(⟨(⟨#[99]⟩ : ByteArray), false⟩ : Line)]⟩ : Edit)]).length) c544]])[(0 : Int).toNat]? = some [Value.int .i64 0, Value.int .i64 1, Value.int .i64 0, Value.int .i64 1, Value.slice A543 (([(⟨2, [(⟨(⟨#[98]⟩ : ByteArray), false⟩ : Line)]⟩ : Edit), (⟨3, [(⟨(⟨#[99]⟩ : ByteArray), false⟩ : Line)]⟩ : Edit)]).length) c544] := last_at (by simp <;> omega)
  refine FWl.val 53 rfl rfl (ptrAt A697 ((0 : Int).toNat * 5)) _ (r_indexAddr Try.underlying48 Try.sizeOf82 rfl rfl (hm12_1087.isSome (by simp)) (by simp <;> omega) (by simp <;> omega)) ?_
  refine FWl.val 54 rfl rfl (ptrAt A697 ((0 : Int).toNat * 5)) _ (r_fieldAddrAt Try.underlying82 rfl Try.sizeOf3 rfl rfl rfl (hm12_1087.isSome (by simp)) rfl) ?_
  refine FWl.storeM (vs := [Value.int .i64 1]) (rows' := ([] : List (List Value)) ++ [[Value.int .i64 1, Value.int .i64 1, Value.int .i64 0, Value.int .i64 1, Value.slice A543 (([(⟨2, [(⟨(⟨#[98]⟩ : ByteArray), false⟩ : Line)]⟩ : Edit), (⟨3, [(⟨(⟨#[99]⟩ : ByteArray), false⟩ : Line)]⟩ : Edit)]).length) c544]]) (j := 0) rfl rfl rfl Try.sizeOf3 rfl hm12_1087 hi1128 rfl hH1088 rfl rfl rfl rfl (by rw [set_last (by simp <;> omega)]; rfl) ?_
  intro g1131 w1129 cs1132 m1130 hM1134 hB1133 hst1135
  have hE_1136 := hE_1082.trans (m1130.ext hE_1082.size (by omega))
  have st15_1137 := st15_1083.other m1130 (st15_1083.ne_type hst1135 (by decide))
  have hH1141 := m1130.has
  have hln_hM1134 : (([] : List (List Value)) ++ [[Value.int .i64 1, Value.int .i64 1, Value.int .i64 0, Value.int .i64 1, Value.slice A543 (([(⟨2, [(⟨(⟨#[98]⟩ : ByteArray), false⟩ : Line)]⟩ : Edit), (⟨3, [(⟨(⟨#[99]⟩ : ByteArray), false⟩ : Line)]⟩ : Edit)]).length) c544]]).length = ([] : List (List Value)).length + 1 := by simp
  have st15_1142 : St w1129 C1079 g13 [Value.int .i64 0, Value.slice A697 ((([] : List (List Value)) ++ [[Value.int .i64 1, Value.int .i64 1, Value.int .i64 0, Value.int .i64 1, Value.slice A543 (([(⟨2, [(⟨(⟨#[98]⟩ : ByteArray), false⟩ : Line)]⟩ : Edit), (⟨3, [(⟨(⟨#[99]⟩ : ByteArray), false⟩ : Line)]⟩ : Edit)]).length) c544]]).length) c698, Value.slice none 0 0, Value.int .i64 0, Value.int .i64 0, Value.slice none 0 0] 73 := by simpa only [List.length_append, List.length_cons, List.length_nil] using st15_1137
  have hi1143 : (([] : List (List Value)) ++ [[Value.int .i64 1, Value.int .i64 1, Value.int .i64 0, Value.int .i64 1, Value.slice A543 (([(⟨2, [(⟨(⟨#[98]⟩ : ByteArray), false⟩ : Line)]⟩ : Edit), (⟨3, [(⟨(⟨#[99]⟩ : ByteArray), false⟩ : Line)]⟩ : Edit)]).length) c544]])[(0 : Int).toNat]? = some [Value.int .i64 1, Value.int .i64 1, Value.int .i64 0, Value.int .i64 1, Value.slice A543 (([(⟨2, [(⟨(⟨#[98]⟩ : ByteArray), false⟩ : Line)]⟩ : Edit), (⟨3, [(⟨(⟨#[99]⟩ : ByteArray), false⟩ : Line)]⟩ : Edit)]).length) c544] := last_at (by simp <;> omega)
  refine FWl.val 55 rfl rfl (ptrAt A697 ((0 : Int).toNat * 5)) _ (r_indexAddr Try.underlying48 Try.sizeOf82 rfl rfl (hM1134.isSome (by simp)) (by simp <;> omega) (by simp <;> omega)) ?_
  refine FWl.val 56 rfl rfl (ptrAt A697 ((0 : Int).toNat * 5 + 2)) _ (r_fieldAddrAt Try.underlying82 rfl Try.sizeOf3 rfl rfl rfl (hM1134.isSome (by simp)) rfl) ?_
  refine FWl.storeM (vs := [Value.int .i64 1]) (rows' := ([] : List (List Value)) ++ [[Value.int .i64 1, Value.int .i64 1, Value.int .i64 1, Value.int .i64 1, Value.slice A543 (([(⟨2, [(⟨(⟨#[98]⟩ : ByteArray), false⟩ : Line)]⟩ : Edit), (⟨3, [(⟨(⟨#[99]⟩ : ByteArray), false⟩ : Line)]⟩ : Edit)]).length) c544]]) (j := 2) rfl rfl rfl Try.sizeOf3 rfl hM1134 hi1143 rfl hH1141 rfl rfl rfl rfl (by rw [set_last (by simp <;> omega)]; rfl) ?_
  intro g1146 w1144 cs1147 m1145 hM1149 hB1148 hst1150
  have hE_1151 := hE_1136.trans (m1145.ext hE_1136.size (by omega))
  have st15_1152 := st15_1142.other m1145 (st15_1142.ne_type hst1150 (by decide))
  have hH1156 := m1145.has
  have hln_hM1149 : (([] : List (List Value)) ++ [[Value.int .i64 1, Value.int .i64 1, Value.int .i64 1, Value.int .i64 1, Value.slice A543 (([(⟨2, [(⟨(⟨#[98]⟩ : ByteArray), false⟩ : Line)]⟩ : Edit), (⟨3, [(⟨(⟨#[99]⟩ : ByteArray), false⟩ : Line)]⟩ : Edit)]).length) c544]]).length = ([] : List (List Value)).length + 1 := by simp
  have st15_1157 : St w1144 C1079 g13 [Value.int .i64 0, Value.slice A697 ((([] : List (List Value)) ++ [[Value.int .i64 1, Value.int .i64 1, Value.int .i64 1, Value.int .i64 1, Value.slice A543 (([(⟨2, [(⟨(⟨#[98]⟩ : ByteArray), false⟩ : Line)]⟩ : Edit), (⟨3, [(⟨(⟨#[99]⟩ : ByteArray), false⟩ : Line)]⟩ : Edit)]).length) c544]]).length) c698, Value.slice none 0 0, Value.int .i64 0, Value.int .i64 0, Value.slice none 0 0] 73 := by simpa only [List.length_append, List.length_cons, List.length_nil] using st15_1152
  refine FWl.nil (hK84 _ _ ?_)
  clear hK84 K84
  refine FW.region rfl ?_
  refine FWl.val 57 rfl rfl (Value.int .i64 0) _ (r_move) ?_
  refine FWl.val 58 rfl rfl (Value.int .i64 1) _ (r_addE (a := 0) (b := 1) rfl rfl (by decide)) ?_
  refine FWl.val 8 rfl rfl (Value.int .i64 1) _ (r_assign) ?_
  refine FWl.val 9 rfl rfl (Value.bool false) _ (r_assign) ?_
  refine FWl.nil (hK76 _ _ ?_)
  clear hK76 K76
  refine FW.seq_k fun K85 hK85 => ?_
  refine FW.seq_k fun K86 hK86 => ?_
  refine FW.region rfl ?_
  refine FWl.val 59 rfl rfl (Value.agg #[Value.int .i64 2, Value.slice A113 (([(⟨(⟨#[98]⟩ : ByteArray), false⟩ : Line)]).length) c114]) _ (r_loadPN Try.isAgg57 Try.sizeOf57 hcg941_1124 rfl hH1156) ?_
  refine FWl.call 60 rfl rfl 50 #[Value.agg #[Value.int .i64 2, Value.slice A113 (([(⟨(⟨#[98]⟩ : ByteArray), false⟩ : Line)]).length) c114]] (r_call1 Try.call50 rfl rfl) (Ret.of Try.func50 rfl Try.ntmps50 rfl ?_)
  refine FW.seq_k fun K87 hK87 => ?_
  refine FW.region rfl ?_
  refine FWl.box (cs := [Value.int .i64 2, Value.slice A113 (([(⟨(⟨#[98]⟩ : ByteArray), false⟩ : Line)]).length) c114]) rfl rfl rfl rfl rfl hH1156 ?_
  intro g1158 w1159 st1160 e1161 hg1162
  have hge_st1160_hE := Nat.le_trans hE_1151.size (Nat.le_of_eq hg1162)
  have hE_1163 := hE_1151.step e1161
  have st15_1164 := st15_1157.call e1161
  have hm12_1168 := hM1149.call e1161
  have hH1169 := e1161.has
  have hlt_st1160 := st1160.lt
  obtain ⟨C1173, m1174, hcg1175⟩ := st1160.commit hH1169
  have hE_1176 := hE_1163.trans (m1174.ext hE_1163.size (by omega))
  have st15_1177 := st15_1164.other m1174 (st15_1164.ne_type st1160 (by decide))
  have hm12_1181 := hm12_1168.other m1174 st1160 (by decide)
  have hH1182 := m1174.has
  have hs11_1185 := hs11_1091.mono m1174.le
  have hg316_1200 := hg316_1106.mono m1174.le
  have hs547_1208 := hs547_1114.mono m1174.le
  have hcg941_1218 := hcg941_1124.mono m1174.le
  refine FWl.val 2 rfl rfl (Value.bool false) _ (r_assign) ?_
  refine FWl.nil (hK87 _ _ ?_)
  clear hK87 K87
  refine FW.seq_k fun K88 hK88 => ?_
  refine FW.region rfl ?_
  refine FWl.val 3 rfl rfl (Value.pointer (some ⟨g1158, 0, none⟩)) _ (r_fieldAddrS Try.underlying57 rfl Try.sizeOf55 rfl rfl rfl rfl) ?_
  refine FWl.val 4 rfl rfl (Value.int .i64 2) _ (r_loadP1 Try.isAgg55 hcg1175 rfl rfl hH1182) ?_
  refine FWl.val 5 rfl rfl (Value.bool true) _ (r_neq (a := 2) (b := 1) rfl rfl) ?_
  refine FWl.val 2 rfl rfl (Value.bool true) _ (r_assign) ?_
  refine FWl.nil (hK88 _ _ ?_)
  clear hK88 K88
  refine FW.ret (?_)
  refine ret_tmp (v := Value.bool true) Try.results50 (.inl rfl) rfl ?_
  refine FWl.val 61 rfl rfl (Value.bool false) _ (r_not (b := true) rfl) ?_
  refine FWl.val 62 rfl rfl (Value.bool false) _ (r_move) ?_
  refine FWl.skip 63 rfl rfl ?_
  refine FWl.skip 64 rfl rfl ?_
  refine FWl.val 65 rfl rfl (Value.bool false) _ (r_pick (t := false) rfl) ?_
  refine FWl.val 66 rfl rfl (Value.bool false) _ (r_move) ?_
  refine FWl.skip 67 rfl rfl ?_
  refine FWl.skip 68 rfl rfl ?_
  refine FWl.skip 69 rfl rfl ?_
  refine FWl.skip 70 rfl rfl ?_
  refine FWl.val 71 rfl rfl (Value.bool false) _ (r_pick (t := false) rfl) ?_
  refine FWl.nil (hK86 _ _ ?_)
  clear hK86 K86
  refine FW.cond false rfl (fun h => nomatch h) (fun _ => ?_)
  refine FW.skip (hK85 _ _ ?_)
  clear hK85 K85
  refine FW.seq_k fun K89 hK89 => ?_
  refine FW.seq_k fun K90 hK90 => ?_
  refine FW.region rfl ?_
  refine FWl.val 72 rfl rfl (Value.pointer (some ⟨g914, 0, none⟩)) _ (r_fieldAddrS Try.underlying57 rfl Try.sizeOf55 rfl rfl rfl rfl) ?_
  refine FWl.val 73 rfl rfl (Value.int .i64 2) _ (r_loadP1 Try.isAgg55 hcg941_1218 rfl rfl hH1182) ?_
  refine FWl.val 74 rfl rfl (Value.bool true) _ (r_neq (a := 2) (b := 3) rfl rfl) ?_
  refine FWl.nil (hK90 _ _ ?_)
  clear hK90 K90
  refine FW.cond true rfl (fun _ => ?_) (fun h => nomatch h)
  refine FW.region rfl ?_
  refine FWl.val 75 rfl rfl (Value.int .i64 1) _ (r_move) ?_
  refine FWl.val 76 rfl rfl (Value.int .i64 1) _ (r_move) ?_
  refine FWl.val 77 rfl rfl (Value.int .i64 2) _ (r_addE (a := 1) (b := 1) rfl rfl (by decide)) ?_
  refine FWl.val 6 rfl rfl (Value.int .i64 2) _ (r_assign) ?_
  refine FWl.nil (hK89 _ _ ?_)
  clear hK89 K89
  refine FW.seq_k fun K91 hK91 => ?_
  refine FW.region rfl ?_
  refine FWl.val 78 rfl rfl (Value.pointer (some ⟨g914, 0, none⟩)) _ (r_fieldAddrS Try.underlying57 rfl Try.sizeOf55 rfl rfl rfl rfl) ?_
  refine FWl.val 79 rfl rfl (Value.int .i64 2) _ (r_loadP1 Try.isAgg55 hcg941_1218 rfl rfl hH1182) ?_
  refine FWl.val 80 rfl rfl (Value.bool false) _ (r_neq (a := 2) (b := 2) rfl rfl) ?_
  refine FWl.nil (hK91 _ _ ?_)
  clear hK91 K91
  refine FW.cond false rfl (fun h => nomatch h) (fun _ => ?_)
  refine FW.skip (hK73 _ _ ?_)
  clear hK73 K73
  refine FW.region rfl ?_
  refine FWl.val 84 rfl rfl (Value.int .i64 2) _ (r_addE (a := 1) (b := 1) rfl rfl (by decide)) ?_
  refine FWl.val 17 rfl rfl (Value.int .i64 2) _ (r_move) ?_
  refine FWl.nil (thenF_round ?_)
  refine FW.seq_k fun K92 hK92 => ?_
  refine FW.region rfl ?_
  refine FWl.val 18 rfl rfl (Value.bool true) _ (r_lss (a := 2) (b := 3) rfl rfl) ?_
  refine FWl.nil (hK92 _ _ ?_)
  clear hK92 K92
  refine FW.seq_k fun K93 hK93 => ?_
  refine FW.cond true rfl (fun _ => ?_) (fun h => nomatch h)
  refine FW.skip (hK93 _ _ ?_)
  clear hK93 K93
  refine FW.seq_k fun K94 hK94 => ?_
  refine FW.block ?_
  refine FW.seq_k fun K95 hK95 => ?_
  refine FW.region rfl ?_
  refine FWl.val 19 rfl rfl (Value.int .i64 2) _ (r_move) ?_
  refine FWl.val 20 rfl rfl (ptrAt A4 ((2 : Int).toNat * 2)) _ (r_indexAddr Try.underlying26 Try.sizeOf57 rfl rfl (hs11_1185.isSome (by simp)) (by omega) (by simp)) ?_
  refine FWl.val 21 rfl rfl (Value.agg #[Value.int .i64 3, Value.slice A317 (([(⟨(⟨#[99]⟩ : ByteArray), false⟩ : Line)]).length) c318]) _ (r_loadGN Try.isAgg57 Try.sizeOf57 hg316_1200 rfl hH1182) ?_
  refine FWl.alloc (cs := [Value.int .i64 0, Value.slice none 0 0]) rfl rfl rfl Try.zeroValue57 rfl hH1182 ?_
  intro g1223 w1224 st1225 e1226 hg1227
  have hge_st1225_hE := Nat.le_trans hE_1176.size (Nat.le_of_eq hg1227)
  have hE_1228 := hE_1176.step e1226
  have st15_1229 := st15_1177.call e1226
  have hm12_1233 := hm12_1181.call e1226
  have hH1234 := e1226.has
  have hlt_st1225 := st1225.lt
  refine FWl.val 10 rfl rfl (Value.int .i64 2) _ (r_assign) ?_
  refine FWl.store (vs := [Value.int .i64 3, Value.slice A317 (([(⟨(⟨#[99]⟩ : ByteArray), false⟩ : Line)]).length) c318]) (cs' := [Value.int .i64 3, Value.slice A317 (([(⟨(⟨#[99]⟩ : ByteArray), false⟩ : Line)]).length) c318]) rfl rfl rfl Try.sizeOf57 rfl st1225 hH1234 rfl rfl rfl rfl rfl rfl ?_
  intro w1238 m1239 st1225_1240
  have hE_1241 := hE_1228.trans (m1239.ext hE_1228.size (by omega))
  have st15_1242 := st15_1229.other m1239 (st15_1229.ne_type st1225 (by decide))
  have hm12_1246 := hm12_1233.other m1239 st1225 (by decide)
  have hH1247 := m1239.has
  obtain ⟨C1248, m1249, hcg1250⟩ := st1225_1240.commit hH1247
  have hE_1251 := hE_1241.trans (m1249.ext hE_1241.size (by omega))
  have st15_1252 := st15_1242.other m1249 (st15_1242.ne_type st1225_1240 (by decide))
  have hm12_1256 := hm12_1246.other m1249 st1225_1240 (by decide)
  have hH1257 := m1249.has
  have hs547_1283 := hs547_1208.mono m1249.le
  refine FWl.nil (hK95 _ _ ?_)
  clear hK95 K95
  refine FW.seq_k fun K96 hK96 => ?_
  refine FW.region rfl ?_
  refine FWl.val 22 rfl rfl (Value.pointer (some ⟨g1223, 1, none⟩)) _ (r_fieldAddrS Try.underlying57 rfl Try.sizeOf22 rfl rfl rfl rfl) ?_
  refine FWl.val 23 rfl rfl (Value.slice A317 (([(⟨(⟨#[99]⟩ : ByteArray), false⟩ : Line)]).length) c318) _ (r_loadP1 Try.isAgg22 hcg1250 rfl rfl hH1257) ?_
  refine FWl.val 24 rfl rfl (Value.int .i64 1) _ (r_lenSl Try.underlying22 rfl) ?_
  refine FWl.val 12 rfl rfl (Value.int .i64 1) _ (r_assign) ?_
  refine FWl.nil (hK96 _ _ ?_)
  clear hK96 K96
  refine FW.seq_k fun K97 hK97 => ?_
  refine FW.seq_k fun K98 hK98 => ?_
  refine FW.region rfl ?_
  refine FWl.val 25 rfl rfl (Value.agg #[Value.int .i64 3, Value.slice A317 (([(⟨(⟨#[99]⟩ : ByteArray), false⟩ : Line)]).length) c318]) _ (r_loadPN Try.isAgg57 Try.sizeOf57 hcg1250 rfl hH1257) ?_
  refine FWl.call 26 rfl rfl 50 #[Value.agg #[Value.int .i64 3, Value.slice A317 (([(⟨(⟨#[99]⟩ : ByteArray), false⟩ : Line)]).length) c318]] (r_call1 Try.call50 rfl rfl) (Ret.of Try.func50 rfl Try.ntmps50 rfl ?_)
  refine FW.seq_k fun K99 hK99 => ?_
  refine FW.region rfl ?_
  refine FWl.box (cs := [Value.int .i64 3, Value.slice A317 (([(⟨(⟨#[99]⟩ : ByteArray), false⟩ : Line)]).length) c318]) rfl rfl rfl rfl rfl hH1257 ?_
  intro g1299 w1300 st1301 e1302 hg1303
  have hge_st1301_hE := Nat.le_trans hE_1251.size (Nat.le_of_eq hg1303)
  have hE_1304 := hE_1251.step e1302
  have st15_1305 := st15_1252.call e1302
  have hm12_1309 := hm12_1256.call e1302
  have hH1310 := e1302.has
  have hlt_st1301 := st1301.lt
  obtain ⟨C1314, m1315, hcg1316⟩ := st1301.commit hH1310
  have hE_1317 := hE_1304.trans (m1315.ext hE_1304.size (by omega))
  have st15_1318 := st15_1305.other m1315 (st15_1305.ne_type st1301 (by decide))
  have hm12_1322 := hm12_1309.other m1315 st1301 (by decide)
  have hH1323 := m1315.has
  have hs547_1349 := hs547_1283.mono m1315.le
  have hcg1250_1365 := hcg1250.mono m1315.le
  refine FWl.val 2 rfl rfl (Value.bool false) _ (r_assign) ?_
  refine FWl.nil (hK99 _ _ ?_)
  clear hK99 K99
  refine FW.seq_k fun K100 hK100 => ?_
  refine FW.region rfl ?_
  refine FWl.val 3 rfl rfl (Value.pointer (some ⟨g1299, 0, none⟩)) _ (r_fieldAddrS Try.underlying57 rfl Try.sizeOf55 rfl rfl rfl rfl) ?_
  refine FWl.val 4 rfl rfl (Value.int .i64 3) _ (r_loadP1 Try.isAgg55 hcg1316 rfl rfl hH1323) ?_
  refine FWl.val 5 rfl rfl (Value.bool true) _ (r_neq (a := 3) (b := 1) rfl rfl) ?_
  refine FWl.val 2 rfl rfl (Value.bool true) _ (r_assign) ?_
  refine FWl.nil (hK100 _ _ ?_)
  clear hK100 K100
  refine FW.ret (?_)
  refine ret_tmp (v := Value.bool true) Try.results50 (.inl rfl) rfl ?_
  refine FWl.val 27 rfl rfl (Value.bool true) _ (r_move) ?_
  refine FWl.val 28 rfl rfl (Value.bool false) _ (r_move) ?_
  refine FWl.val 29 rfl rfl (Value.bool false) _ (r_pick (t := true) rfl) ?_
  refine FWl.nil (hK98 _ _ ?_)
  clear hK98 K98
  refine FW.cond false rfl (fun h => nomatch h) (fun _ => ?_)
  refine FW.skip (hK97 _ _ ?_)
  clear hK97 K97
  refine FW.seq_k fun K101 hK101 => ?_
  refine FW.seq_k fun K102 hK102 => ?_
  refine FW.region rfl ?_
  refine FWl.val 59 rfl rfl (Value.agg #[Value.int .i64 3, Value.slice A317 (([(⟨(⟨#[99]⟩ : ByteArray), false⟩ : Line)]).length) c318]) _ (r_loadPN Try.isAgg57 Try.sizeOf57 hcg1250_1365 rfl hH1323) ?_
  refine FWl.call 60 rfl rfl 50 #[Value.agg #[Value.int .i64 3, Value.slice A317 (([(⟨(⟨#[99]⟩ : ByteArray), false⟩ : Line)]).length) c318]] (r_call1 Try.call50 rfl rfl) (Ret.of Try.func50 rfl Try.ntmps50 rfl ?_)
  refine FW.seq_k fun K103 hK103 => ?_
  refine FW.region rfl ?_
  refine FWl.box (cs := [Value.int .i64 3, Value.slice A317 (([(⟨(⟨#[99]⟩ : ByteArray), false⟩ : Line)]).length) c318]) rfl rfl rfl rfl rfl hH1323 ?_
  intro g1366 w1367 st1368 e1369 hg1370
  have hge_st1368_hE := Nat.le_trans hE_1317.size (Nat.le_of_eq hg1370)
  have hE_1371 := hE_1317.step e1369
  have st15_1372 := st15_1318.call e1369
  have hm12_1376 := hm12_1322.call e1369
  have hH1377 := e1369.has
  have hlt_st1368 := st1368.lt
  obtain ⟨C1381, m1382, hcg1383⟩ := st1368.commit hH1377
  have hE_1384 := hE_1371.trans (m1382.ext hE_1371.size (by omega))
  have st15_1385 := st15_1372.other m1382 (st15_1372.ne_type st1368 (by decide))
  have hm12_1389 := hm12_1376.other m1382 st1368 (by decide)
  have hH1390 := m1382.has
  have hs547_1416 := hs547_1349.mono m1382.le
  have hcg1250_1432 := hcg1250_1365.mono m1382.le
  refine FWl.val 2 rfl rfl (Value.bool false) _ (r_assign) ?_
  refine FWl.nil (hK103 _ _ ?_)
  clear hK103 K103
  refine FW.seq_k fun K104 hK104 => ?_
  refine FW.region rfl ?_
  refine FWl.val 3 rfl rfl (Value.pointer (some ⟨g1366, 0, none⟩)) _ (r_fieldAddrS Try.underlying57 rfl Try.sizeOf55 rfl rfl rfl rfl) ?_
  refine FWl.val 4 rfl rfl (Value.int .i64 3) _ (r_loadP1 Try.isAgg55 hcg1383 rfl rfl hH1390) ?_
  refine FWl.val 5 rfl rfl (Value.bool true) _ (r_neq (a := 3) (b := 1) rfl rfl) ?_
  refine FWl.val 2 rfl rfl (Value.bool true) _ (r_assign) ?_
  refine FWl.nil (hK104 _ _ ?_)
  clear hK104 K104
  refine FW.ret (?_)
  refine ret_tmp (v := Value.bool true) Try.results50 (.inl rfl) rfl ?_
  refine FWl.val 61 rfl rfl (Value.bool false) _ (r_not (b := true) rfl) ?_
  refine FWl.val 62 rfl rfl (Value.bool false) _ (r_move) ?_
  refine FWl.skip 63 rfl rfl ?_
  refine FWl.skip 64 rfl rfl ?_
  refine FWl.val 65 rfl rfl (Value.bool false) _ (r_pick (t := false) rfl) ?_
  refine FWl.val 66 rfl rfl (Value.bool false) _ (r_move) ?_
  refine FWl.skip 67 rfl rfl ?_
  refine FWl.skip 68 rfl rfl ?_
  refine FWl.skip 69 rfl rfl ?_
  refine FWl.skip 70 rfl rfl ?_
  refine FWl.val 71 rfl rfl (Value.bool false) _ (r_pick (t := false) rfl) ?_
  refine FWl.nil (hK102 _ _ ?_)
  clear hK102 K102
  refine FW.cond false rfl (fun h => nomatch h) (fun _ => ?_)
  refine FW.skip (hK101 _ _ ?_)
  clear hK101 K101
  refine FW.seq_k fun K105 hK105 => ?_
  refine FW.seq_k fun K106 hK106 => ?_
  refine FW.region rfl ?_
  refine FWl.val 72 rfl rfl (Value.pointer (some ⟨g1223, 0, none⟩)) _ (r_fieldAddrS Try.underlying57 rfl Try.sizeOf55 rfl rfl rfl rfl) ?_
  refine FWl.val 73 rfl rfl (Value.int .i64 3) _ (r_loadP1 Try.isAgg55 hcg1250_1432 rfl rfl hH1390) ?_
  refine FWl.val 74 rfl rfl (Value.bool false) _ (r_neq (a := 3) (b := 3) rfl rfl) ?_
  refine FWl.nil (hK106 _ _ ?_)
  clear hK106 K106
  refine FW.cond false rfl (fun h => nomatch h) (fun _ => ?_)
  refine FW.skip (hK105 _ _ ?_)
  clear hK105 K105
  refine FW.seq_k fun K107 hK107 => ?_
  refine FW.region rfl ?_
  refine FWl.val 78 rfl rfl (Value.pointer (some ⟨g1223, 0, none⟩)) _ (r_fieldAddrS Try.underlying57 rfl Try.sizeOf55 rfl rfl rfl rfl) ?_
  refine FWl.val 79 rfl rfl (Value.int .i64 3) _ (r_loadP1 Try.isAgg55 hcg1250_1432 rfl rfl hH1390) ?_
  refine FWl.val 80 rfl rfl (Value.bool true) _ (r_neq (a := 3) (b := 2) rfl rfl) ?_
  refine FWl.nil (hK107 _ _ ?_)
  clear hK107 K107
  refine FW.cond true rfl (fun _ => ?_) (fun h => nomatch h)
  refine FW.region rfl ?_
  refine FWl.val 81 rfl rfl (Value.int .i64 1) _ (r_move) ?_
  refine FWl.val 82 rfl rfl (Value.int .i64 1) _ (r_move) ?_
  refine FWl.val 83 rfl rfl (Value.int .i64 2) _ (r_addE (a := 1) (b := 1) rfl rfl (by decide)) ?_
  refine FWl.val 7 rfl rfl (Value.int .i64 2) _ (r_assign) ?_
  refine FWl.nil (hK94 _ _ ?_)
  clear hK94 K94
  refine FW.region rfl ?_
  refine FWl.val 84 rfl rfl (Value.int .i64 3) _ (r_addE (a := 2) (b := 1) rfl rfl (by decide)) ?_
  refine FWl.val 17 rfl rfl (Value.int .i64 3) _ (r_move) ?_
  refine FWl.nil (thenF_round ?_)
  refine FW.seq_k fun K108 hK108 => ?_
  refine FW.region rfl ?_
  refine FWl.val 18 rfl rfl (Value.bool false) _ (r_lss (a := 3) (b := 3) rfl rfl) ?_
  refine FWl.nil (hK108 _ _ ?_)
  clear hK108 K108
  refine FW.seq_k fun K109 hK109 => ?_
  refine FW.cond false rfl (fun h => nomatch h) (fun _ => ?_)
  refine FW.exit (thenF_exit (thenF_exit (inBlockF_hit (?_))))
  refine ret_none  Try.results30 (.inr rfl) ?_
  refine FWl.nil (hK51 _ _ ?_)
  clear hK51 K51 hK109 K109
  refine FW.seq_k fun K110 hK110 => ?_
  refine FW.region rfl ?_
  refine FWl.val 61 rfl rfl (Value.pointer (some ⟨g13, 0, none⟩)) _ (r_move) ?_
  refine FWl.val 62 rfl rfl (Value.pointer (some ⟨g13, 0, none⟩)) _ (r_nilCheck rfl) ?_
  refine FWl.val 63 rfl rfl (Value.pointer (some ⟨g13, 1, none⟩)) _ (r_fieldAddrS Try.underlying73 rfl Try.sizeOf48 rfl rfl rfl rfl) ?_
  refine FWl.val 64 rfl rfl (Value.slice A697 ((([] : List (List Value)) ++ [[Value.int .i64 1, Value.int .i64 1, Value.int .i64 1, Value.int .i64 1, Value.slice A543 (([(⟨2, [(⟨(⟨#[98]⟩ : ByteArray), false⟩ : Line)]⟩ : Edit), (⟨3, [(⟨(⟨#[99]⟩ : ByteArray), false⟩ : Line)]⟩ : Edit)]).length) c544]]).length) c698) _ (r_load1 Try.isAgg48 rfl (st15_1385.cell rfl)) ?_
  refine FWl.val 4 rfl rfl (Value.slice A697 ((([] : List (List Value)) ++ [[Value.int .i64 1, Value.int .i64 1, Value.int .i64 1, Value.int .i64 1, Value.slice A543 (([(⟨2, [(⟨(⟨#[98]⟩ : ByteArray), false⟩ : Line)]⟩ : Edit), (⟨3, [(⟨(⟨#[99]⟩ : ByteArray), false⟩ : Line)]⟩ : Edit)]).length) c544]]).length) c698) _ (r_assign) ?_
  refine FWl.val 5 rfl rfl (Value.int .i64 0) _ (r_assign) ?_
  refine FWl.nil (hK110 _ _ ?_)
  clear hK110 K110
  refine FW.ret (?_)
  refine ret_tmp2 (v := Value.slice A697 ((([] : List (List Value)) ++ [[Value.int .i64 1, Value.int .i64 1, Value.int .i64 1, Value.int .i64 1, Value.slice A543 (([(⟨2, [(⟨(⟨#[98]⟩ : ByteArray), false⟩ : Line)]⟩ : Edit), (⟨3, [(⟨(⟨#[99]⟩ : ByteArray), false⟩ : Line)]⟩ : Edit)]).length) c544]]).length) c698) (v' := Value.int .i64 0) Try.results16 (.inl rfl) rfl rfl ?_
  obtain ⟨C2, e2, h2, _⟩ := hm12_1389.toSl (K := kHunk) (xs := [(⟨1, 1, 1, 1, [(⟨2, [(⟨(⟨#[98]⟩ : ByteArray), false⟩ : Line)]⟩ : Edit), (⟨3, [(⟨(⟨#[99]⟩ : ByteArray), false⟩ : Line)]⟩ : Edit)]⟩ : Hunk)]) rfl (.cons (kHunk_mk (x := (⟨1, 1, 1, 1, [(⟨2, [(⟨(⟨#[98]⟩ : ByteArray), false⟩ : Line)]⟩ : Edit), (⟨3, [(⟨(⟨#[99]⟩ : ByteArray), false⟩ : Line)]⟩ : Edit)]⟩ : Hunk)) hs547_1416) .nil) rfl (by simp) hH1390 hE_1384.size
  exact ⟨C2, _, _, rfl, hE_1384.trans e2, h2⟩

theorem Check_1 {A : Option Addr} {c : Nat} {w : World} {C : Gh} (hH : Has w C) (hs : Sl kHunk C A c [(⟨1, 1, 1, 1, [(⟨2, [(⟨(⟨#[98]⟩ : ByteArray), false⟩ : Line)]⟩ : Edit), (⟨3, [(⟨(⟨#[99]⟩ : ByteArray), false⟩ : Line)]⟩ : Edit)]⟩ : Hunk)]) : Ret Try.prog 31 #[Value.slice A (([(⟨1, 1, 1, 1, [(⟨2, [(⟨(⟨#[98]⟩ : ByteArray), false⟩ : Line)]⟩ : Edit), (⟨3, [(⟨(⟨#[99]⟩ : ByteArray), false⟩ : Line)]⟩ : Edit)]⟩ : Hunk)]).length) c] w fun v w' => ∃ (C' : Gh), v = Value.int .i64 0 ∧ Ext w.heap.size w C w' C' := by
  refine Ret.of Try.func31 rfl Try.ntmps31 rfl ?_
  have hE := Ext.refl (B := w.heap.size) hH
  have bd_hs := hs.bd
  refine FW.seq_k fun K1 hK1 => ?_
  refine FW.region rfl ?_
  refine FWl.val 2 rfl rfl (Value.int .i64 0) _ (r_assign) ?_
  refine FWl.nil (hK1 _ _ ?_)
  clear hK1 K1
  refine FW.seq_k fun K2 hK2 => ?_
  refine FW.seq_k fun K3 hK3 => ?_
  refine FW.region rfl ?_
  refine FWl.val 7 rfl rfl (Value.slice A (([(⟨1, 1, 1, 1, [(⟨2, [(⟨(⟨#[98]⟩ : ByteArray), false⟩ : Line)]⟩ : Edit), (⟨3, [(⟨(⟨#[99]⟩ : ByteArray), false⟩ : Line)]⟩ : Edit)]⟩ : Hunk)]).length) c) _ (r_move) ?_
  refine FWl.val 8 rfl rfl (Value.int .i64 1) _ (r_lenSl Try.underlying48 rfl) ?_
  refine FWl.val 9 rfl rfl (Value.bool false) _ (r_gtr (a := 1) (b := 400) rfl rfl) ?_
  refine FWl.val 10 rfl rfl (Value.bool false) _ (r_move) ?_
  refine FWl.val 11 rfl rfl (Value.slice A (([(⟨1, 1, 1, 1, [(⟨2, [(⟨(⟨#[98]⟩ : ByteArray), false⟩ : Line)]⟩ : Edit), (⟨3, [(⟨(⟨#[99]⟩ : ByteArray), false⟩ : Line)]⟩ : Edit)]⟩ : Hunk)]).length) c) _ (r_move) ?_
  refine FWl.call 12 rfl rfl 53 #[Value.slice A (([(⟨1, 1, 1, 1, [(⟨2, [(⟨(⟨#[98]⟩ : ByteArray), false⟩ : Line)]⟩ : Edit), (⟨3, [(⟨(⟨#[99]⟩ : ByteArray), false⟩ : Line)]⟩ : Edit)]⟩ : Hunk)]).length) c, Value.func (.func 54) #[] #[]] (r_call2 Try.call53 rfl rfl rfl) (Ret.of Try.func53 rfl Try.ntmps53 rfl ?_)
  refine FW.seq_k fun K4 hK4 => ?_
  refine FW.region rfl ?_
  refine FWl.val 4 rfl rfl (Value.bool false) _ (r_assign) ?_
  refine FWl.nil (hK4 _ _ ?_)
  clear hK4 K4
  refine FW.seq_k fun K5 hK5 => ?_
  refine FW.region rfl ?_
  refine FWl.val 5 rfl rfl (Value.slice A (([(⟨1, 1, 1, 1, [(⟨2, [(⟨(⟨#[98]⟩ : ByteArray), false⟩ : Line)]⟩ : Edit), (⟨3, [(⟨(⟨#[99]⟩ : ByteArray), false⟩ : Line)]⟩ : Edit)]⟩ : Hunk)]).length) c) _ (r_move) ?_
  refine FWl.val 6 rfl rfl (Value.func (.func 54) #[] #[]) _ (r_move) ?_
  refine FWl.call 7 rfl rfl 62 #[Value.slice A (([(⟨1, 1, 1, 1, [(⟨2, [(⟨(⟨#[98]⟩ : ByteArray), false⟩ : Line)]⟩ : Edit), (⟨3, [(⟨(⟨#[99]⟩ : ByteArray), false⟩ : Line)]⟩ : Edit)]⟩ : Hunk)]).length) c, Value.func (.func 54) #[] #[]] (r_call2 Try.call62 rfl rfl rfl) (Ret.of Try.func62 rfl Try.ntmps62 rfl ?_)
  refine FW.seq_k fun K6 hK6 => ?_
  refine FW.region rfl ?_
  refine FWl.val 4 rfl rfl (Value.int .i64 0) _ (r_assign) ?_
  refine FWl.nil (hK6 _ _ ?_)
  clear hK6 K6
  refine FW.seq_k fun K7 hK7 => ?_
  refine FW.seq_k fun K8 hK8 => ?_
  refine FW.region rfl ?_
  refine FWl.val 6 rfl rfl (Value.slice A (([(⟨1, 1, 1, 1, [(⟨2, [(⟨(⟨#[98]⟩ : ByteArray), false⟩ : Line)]⟩ : Edit), (⟨3, [(⟨(⟨#[99]⟩ : ByteArray), false⟩ : Line)]⟩ : Edit)]⟩ : Hunk)]).length) c) _ (r_move) ?_
  refine FWl.val 7 rfl rfl (Value.int .i64 1) _ (r_lenSl Try.underlying48 rfl) ?_
  refine FWl.val 8 rfl rfl (Value.int .i64 0) _ (r_move) ?_
  refine FWl.nil (hK8 _ _ ?_)
  clear hK8 K8
  refine FW.block ?_
  refine FW.loop_in (FWL.unroll ?_)
  refine FW.seq_k fun K9 hK9 => ?_
  refine FW.region rfl ?_
  refine FWl.val 9 rfl rfl (Value.bool true) _ (r_lss (a := 0) (b := 1) rfl rfl) ?_
  refine FWl.nil (hK9 _ _ ?_)
  clear hK9 K9
  refine FW.seq_k fun K10 hK10 => ?_
  refine FW.cond true rfl (fun _ => ?_) (fun h => nomatch h)
  refine FW.skip (hK10 _ _ ?_)
  clear hK10 K10
  refine FW.seq_k fun K11 hK11 => ?_
  refine FW.block ?_
  refine FW.seq_k fun K12 hK12 => ?_
  refine FW.region rfl ?_
  refine FWl.val 10 rfl rfl (Value.int .i64 0) _ (r_move) ?_
  refine FWl.val 5 rfl rfl (Value.int .i64 0) _ (r_assign) ?_
  refine FWl.nil (hK12 _ _ ?_)
  clear hK12 K12
  refine FW.seq_k fun K13 hK13 => ?_
  refine FW.region rfl ?_
  refine FWl.val 11 rfl rfl (Value.func (.func 54) #[] #[]) _ (r_move) ?_
  refine FWl.val 12 rfl rfl (Value.slice A (([(⟨1, 1, 1, 1, [(⟨2, [(⟨(⟨#[98]⟩ : ByteArray), false⟩ : Line)]⟩ : Edit), (⟨3, [(⟨(⟨#[99]⟩ : ByteArray), false⟩ : Line)]⟩ : Edit)]⟩ : Hunk)]).length) c) _ (r_move) ?_
  refine FWl.val 13 rfl rfl (Value.int .i64 0) _ (r_move) ?_
  have hx2 : ([(⟨1, 1, 1, 1, [(⟨2, [(⟨(⟨#[98]⟩ : ByteArray), false⟩ : Line)]⟩ : Edit), (⟨3, [(⟨(⟨#[99]⟩ : ByteArray), false⟩ : Line)]⟩ : Edit)]⟩ : Hunk)] : List Hunk)[(0 : Int).toNat]? = some (⟨1, 1, 1, 1, [(⟨2, [(⟨(⟨#[98]⟩ : ByteArray), false⟩ : Line)]⟩ : Edit), (⟨3, [(⟨(⟨#[99]⟩ : ByteArray), false⟩ : Line)]⟩ : Edit)]⟩ : Hunk) := rfl
  obtain ⟨cs3, hr4, hg5⟩ := hs.at_ _ _ hx2
  obtain ⟨A6, c7, rfl, hs8⟩ := hr4
  refine FWl.val 14 rfl rfl (ptrAt A ((0 : Int).toNat * 5)) _ (r_indexAddr Try.underlying48 Try.sizeOf82 rfl rfl (hs.isSome (by simp)) (by omega) (by simp)) ?_
  refine FWl.val 15 rfl rfl (Value.agg #[Value.int .i64 1, Value.int .i64 1, Value.int .i64 1, Value.int .i64 1, Value.slice A6 (([(⟨2, [(⟨(⟨#[98]⟩ : ByteArray), false⟩ : Line)]⟩ : Edit), (⟨3, [(⟨(⟨#[99]⟩ : ByteArray), false⟩ : Line)]⟩ : Edit)]).length) c7]) _ (r_loadGN Try.isAgg82 Try.sizeOf82 hg5 rfl hH) ?_
  refine FWl.call 16 rfl rfl 54 #[Value.agg #[Value.int .i64 1, Value.int .i64 1, Value.int .i64 1, Value.int .i64 1, Value.slice A6 (([(⟨2, [(⟨(⟨#[98]⟩ : ByteArray), false⟩ : Line)]⟩ : Edit), (⟨3, [(⟨(⟨#[99]⟩ : ByteArray), false⟩ : Line)]⟩ : Edit)]).length) c7]] (r_callV1 Try.call54 rfl rfl rfl) (Ret.of Try.func54 rfl Try.ntmps54 rfl ?_)
  refine FW.seq_k fun K14 hK14 => ?_
  refine FW.region rfl ?_
  refine FWl.box (cs := [Value.int .i64 1, Value.int .i64 1, Value.int .i64 1, Value.int .i64 1, Value.slice A6 (([(⟨2, [(⟨(⟨#[98]⟩ : ByteArray), false⟩ : Line)]⟩ : Edit), (⟨3, [(⟨(⟨#[99]⟩ : ByteArray), false⟩ : Line)]⟩ : Edit)]).length) c7]) rfl rfl rfl rfl rfl hH ?_
  intro g9 w10 st11 e12 hg13
  have hge_st11_hE := Nat.le_trans hE.size (Nat.le_of_eq hg13)
  have hE_14 := hE.step e12
  have hH15 := e12.has
  have hlt_st11 := st11.lt
  obtain ⟨C16, m17, hcg18⟩ := st11.commit hH15
  have hE_19 := hE_14.trans (m17.ext hE_14.size (by omega))
  have hH20 := m17.has
  have hs_21 := hs.mono m17.le
  have hg5_22 := hg5.mono m17.le
  have hs8_23 := hs8.mono m17.le
  refine FWl.val 2 rfl rfl (Value.bool false) _ (r_assign) ?_
  refine FWl.nil (hK14 _ _ ?_)
  clear hK14 K14
  refine FW.seq_k fun K15 hK15 => ?_
  refine FW.region rfl ?_
  refine FWl.val 3 rfl rfl (Value.pointer (some ⟨g9, 4, none⟩)) _ (r_fieldAddrS Try.underlying82 rfl Try.sizeOf26 rfl rfl rfl rfl) ?_
  refine FWl.val 4 rfl rfl (Value.slice A6 (([(⟨2, [(⟨(⟨#[98]⟩ : ByteArray), false⟩ : Line)]⟩ : Edit), (⟨3, [(⟨(⟨#[99]⟩ : ByteArray), false⟩ : Line)]⟩ : Edit)]).length) c7) _ (r_loadP1 Try.isAgg26 hcg18 rfl rfl hH20) ?_
  refine FWl.call 5 rfl rfl 40 #[Value.slice A6 (([(⟨2, [(⟨(⟨#[98]⟩ : ByteArray), false⟩ : Line)]⟩ : Edit), (⟨3, [(⟨(⟨#[99]⟩ : ByteArray), false⟩ : Line)]⟩ : Edit)]).length) c7] (r_call1 Try.call40 rfl rfl) ((check_c hH20 hs8_23 ⟨by decide, by decide, by intro x hx; simp at hx; rcases hx with rfl | rfl <;> decide⟩).mono ?_)
  rintro _ w24 ⟨C25, rfl, e26⟩
  have hE_27 := hE_19.step e26
  have hs_28 := hs_21.mono e26.le
  have hg5_29 := hg5_22.mono e26.le
  have hs8_30 := hs8_23.mono e26.le
  have hH32 := e26.has
  refine FWl.val 6 rfl rfl (Value.bool false) _ (r_eql (a := 0) (b := 4) rfl rfl) ?_
  refine FWl.val 2 rfl rfl (Value.bool false) _ (r_assign) ?_
  refine FWl.nil (hK15 _ _ ?_)
  clear hK15 K15
  refine FW.ret (?_)
  refine ret_tmp (v := Value.bool false) Try.results54 (.inl rfl) rfl ?_
  refine FWl.nil (hK13 _ _ ?_)
  clear hK13 K13
  refine FW.cond false rfl (fun h => nomatch h) (fun _ => ?_)
  refine FW.skip (hK11 _ _ ?_)
  clear hK11 K11
  refine FW.region rfl ?_
  refine FWl.val 18 rfl rfl (Value.int .i64 1) _ (r_addE (a := 0) (b := 1) rfl rfl (by decide)) ?_
  refine FWl.val 8 rfl rfl (Value.int .i64 1) _ (r_move) ?_
  refine FWl.nil (thenF_round ?_)
  refine FW.seq_k fun K16 hK16 => ?_
  refine FW.region rfl ?_
  refine FWl.val 9 rfl rfl (Value.bool false) _ (r_lss (a := 1) (b := 1) rfl rfl) ?_
  refine FWl.nil (hK16 _ _ ?_)
  clear hK16 K16
  refine FW.seq_k fun K17 hK17 => ?_
  refine FW.cond false rfl (fun h => nomatch h) (fun _ => ?_)
  refine FW.exit (thenF_exit (thenF_exit (inBlockF_hit (hK7 _ _ ?_))))
  clear hK7 K7 hK17 K17
  refine FW.seq_k fun K18 hK18 => ?_
  refine FW.region rfl ?_
  refine FWl.val 4 rfl rfl (Value.int .i64 (-1)) _ (r_assign) ?_
  refine FWl.nil (hK18 _ _ ?_)
  clear hK18 K18
  refine FW.ret (?_)
  refine ret_tmp (v := Value.int .i64 (-1)) Try.results62 (.inl rfl) rfl ?_
  refine FWl.val 8 rfl rfl (Value.bool false) _ (r_geq (a := (-1)) (b := 0) rfl rfl) ?_
  refine FWl.val 4 rfl rfl (Value.bool false) _ (r_assign) ?_
  refine FWl.nil (hK5 _ _ ?_)
  clear hK5 K5
  refine FW.ret (?_)
  refine ret_tmp (v := Value.bool false) Try.results53 (.inl rfl) rfl ?_
  refine FWl.val 13 rfl rfl (Value.bool false) _ (r_pick (t := false) rfl) ?_
  refine FWl.nil (hK3 _ _ ?_)
  clear hK3 K3
  refine FW.cond false rfl (fun h => nomatch h) (fun _ => ?_)
  refine FW.skip (hK2 _ _ ?_)
  clear hK2 K2
  refine FW.seq_k fun K19 hK19 => ?_
  refine FW.region rfl ?_
  refine FWl.val 3 rfl rfl (Value.int .i64 0) _ (r_assign) ?_
  refine FWl.val 4 rfl rfl (Value.int .i64 0) _ (r_assign) ?_
  refine FWl.nil (hK19 _ _ ?_)
  clear hK19 K19
  refine FW.seq_k fun K20 hK20 => ?_
  refine FW.seq_k fun K21 hK21 => ?_
  refine FW.region rfl ?_
  refine FWl.val 14 rfl rfl (Value.slice A (([(⟨1, 1, 1, 1, [(⟨2, [(⟨(⟨#[98]⟩ : ByteArray), false⟩ : Line)]⟩ : Edit), (⟨3, [(⟨(⟨#[99]⟩ : ByteArray), false⟩ : Line)]⟩ : Edit)]⟩ : Hunk)]).length) c) _ (r_move) ?_
  refine FWl.val 15 rfl rfl (Value.int .i64 1) _ (r_lenSl Try.underlying48 rfl) ?_
  refine FWl.val 16 rfl rfl (Value.int .i64 0) _ (r_move) ?_
  refine FWl.nil (hK21 _ _ ?_)
  clear hK21 K21
  refine FW.block ?_
  refine FW.loop_in (FWL.unroll ?_)
  refine FW.seq_k fun K22 hK22 => ?_
  refine FW.region rfl ?_
  refine FWl.val 17 rfl rfl (Value.bool true) _ (r_lss (a := 0) (b := 1) rfl rfl) ?_
  refine FWl.nil (hK22 _ _ ?_)
  clear hK22 K22
  refine FW.seq_k fun K23 hK23 => ?_
  refine FW.cond true rfl (fun _ => ?_) (fun h => nomatch h)
  refine FW.skip (hK23 _ _ ?_)
  clear hK23 K23
  refine FW.seq_k fun K24 hK24 => ?_
  refine FW.block ?_
  refine FW.seq_k fun K25 hK25 => ?_
  refine FW.region rfl ?_
  refine FWl.val 18 rfl rfl (ptrAt A ((0 : Int).toNat * 5)) _ (r_indexAddr Try.underlying48 Try.sizeOf82 rfl rfl (hs_28.isSome (by simp)) (by omega) (by simp)) ?_
  refine FWl.val 19 rfl rfl (Value.agg #[Value.int .i64 1, Value.int .i64 1, Value.int .i64 1, Value.int .i64 1, Value.slice A6 (([(⟨2, [(⟨(⟨#[98]⟩ : ByteArray), false⟩ : Line)]⟩ : Edit), (⟨3, [(⟨(⟨#[99]⟩ : ByteArray), false⟩ : Line)]⟩ : Edit)]).length) c7]) _ (r_loadGN Try.isAgg82 Try.sizeOf82 hg5_29 rfl hH32) ?_
  refine FWl.alloc (cs := [Value.int .i64 0, Value.int .i64 0, Value.int .i64 0, Value.int .i64 0, Value.slice none 0 0]) rfl rfl rfl Try.zeroValue82 rfl hH32 ?_
  intro g33 w34 st35 e36 hg37
  have hge_st35_hE := Nat.le_trans hE_27.size (Nat.le_of_eq hg37)
  have hE_38 := hE_27.step e36
  have hH39 := e36.has
  have hlt_st35 := st35.lt
  refine FWl.store (vs := [Value.int .i64 1, Value.int .i64 1, Value.int .i64 1, Value.int .i64 1, Value.slice A6 (([(⟨2, [(⟨(⟨#[98]⟩ : ByteArray), false⟩ : Line)]⟩ : Edit), (⟨3, [(⟨(⟨#[99]⟩ : ByteArray), false⟩ : Line)]⟩ : Edit)]).length) c7]) (cs' := [Value.int .i64 1, Value.int .i64 1, Value.int .i64 1, Value.int .i64 1, Value.slice A6 (([(⟨2, [(⟨(⟨#[98]⟩ : ByteArray), false⟩ : Line)]⟩ : Edit), (⟨3, [(⟨(⟨#[99]⟩ : ByteArray), false⟩ : Line)]⟩ : Edit)]).length) c7]) rfl rfl rfl Try.sizeOf82 rfl st35 hH39 rfl rfl rfl rfl rfl rfl ?_
  intro w40 m41 st35_42
  have hE_43 := hE_38.trans (m41.ext hE_38.size (by omega))
  have hH44 := m41.has
  obtain ⟨C45, m46, hcg47⟩ := st35_42.commit hH44
  have hE_48 := hE_43.trans (m46.ext hE_43.size (by omega))
  have hH49 := m46.has
  have hs8_52 := hs8_30.mono m46.le
  refine FWl.nil (hK25 _ _ ?_)
  clear hK25 K25
  refine FW.seq_k fun K26 hK26 => ?_
  refine FW.seq_k fun K27 hK27 => ?_
  refine FW.region rfl ?_
  refine FWl.val 20 rfl rfl (Value.agg #[Value.int .i64 1, Value.int .i64 1, Value.int .i64 1, Value.int .i64 1, Value.slice A6 (([(⟨2, [(⟨(⟨#[98]⟩ : ByteArray), false⟩ : Line)]⟩ : Edit), (⟨3, [(⟨(⟨#[99]⟩ : ByteArray), false⟩ : Line)]⟩ : Edit)]).length) c7]) _ (r_loadPN Try.isAgg82 Try.sizeOf82 hcg47 rfl hH49) ?_
  refine FWl.call 21 rfl rfl 55 #[Value.agg #[Value.int .i64 1, Value.int .i64 1, Value.int .i64 1, Value.int .i64 1, Value.slice A6 (([(⟨2, [(⟨(⟨#[98]⟩ : ByteArray), false⟩ : Line)]⟩ : Edit), (⟨3, [(⟨(⟨#[99]⟩ : ByteArray), false⟩ : Line)]⟩ : Edit)]).length) c7]] (r_call1 Try.call55 rfl rfl) (Ret.of Try.func55 rfl Try.ntmps55 rfl ?_)
  refine FW.seq_k fun K28 hK28 => ?_
  refine FW.region rfl ?_
  refine FWl.box (cs := [Value.int .i64 1, Value.int .i64 1, Value.int .i64 1, Value.int .i64 1, Value.slice A6 (([(⟨2, [(⟨(⟨#[98]⟩ : ByteArray), false⟩ : Line)]⟩ : Edit), (⟨3, [(⟨(⟨#[99]⟩ : ByteArray), false⟩ : Line)]⟩ : Edit)]).length) c7]) rfl rfl rfl rfl rfl hH49 ?_
  intro g54 w55 st56 e57 hg58
  have hge_st56_hE := Nat.le_trans hE_48.size (Nat.le_of_eq hg58)
  have hE_59 := hE_48.step e57
  have hH60 := e57.has
  have hlt_st56 := st56.lt
  obtain ⟨C61, m62, hcg63⟩ := st56.commit hH60
  have hE_64 := hE_59.trans (m62.ext hE_59.size (by omega))
  have hH65 := m62.has
  have hs8_68 := hs8_52.mono m62.le
  have hcg47_70 := hcg47.mono m62.le
  refine FWl.val 2 rfl rfl (Value.bool false) _ (r_assign) ?_
  refine FWl.nil (hK28 _ _ ?_)
  clear hK28 K28
  refine FW.seq_k fun K29 hK29 => ?_
  refine FW.region rfl ?_
  refine FWl.val 9 rfl rfl (Value.pointer (some ⟨g54, 4, none⟩)) _ (r_fieldAddrS Try.underlying82 rfl Try.sizeOf26 rfl rfl rfl rfl) ?_
  refine FWl.val 10 rfl rfl (Value.slice A6 (([(⟨2, [(⟨(⟨#[98]⟩ : ByteArray), false⟩ : Line)]⟩ : Edit), (⟨3, [(⟨(⟨#[99]⟩ : ByteArray), false⟩ : Line)]⟩ : Edit)]).length) c7) _ (r_loadP1 Try.isAgg26 hcg63 rfl rfl hH65) ?_
  refine FWl.call 11 rfl rfl 27 #[Value.slice A6 (([(⟨2, [(⟨(⟨#[98]⟩ : ByteArray), false⟩ : Line)]⟩ : Edit), (⟨3, [(⟨(⟨#[99]⟩ : ByteArray), false⟩ : Line)]⟩ : Edit)]).length) c7] (r_call1 Try.call27 rfl rfl) ((Normal_c hH65 hs8_68 ⟨by decide, by decide, by intro x hx; simp at hx; rcases hx with rfl | rfl <;> decide⟩).mono ?_)
  rintro _ w71 ⟨C72, A74, c75, rfl, e73, h76⟩
  have hE_77 := hE_64.step e73
  have hs8_80 := hs8_68.mono e73.le
  have hcg47_82 := hcg47_70.mono e73.le
  have hcg63_83 := hcg63.mono e73.le
  have hH84 := e73.has
  have hs86 : Sl kEdit C72 A74 c75 [(⟨2, [(⟨(⟨#[98]⟩ : ByteArray), false⟩ : Line)]⟩ : Edit), (⟨3, [(⟨(⟨#[99]⟩ : ByteArray), false⟩ : Line)]⟩ : Edit)] := h76.lit (by rfl)
  refine FWl.val 8 rfl rfl (Value.tuple #[Value.slice A74 (([(⟨2, [(⟨(⟨#[98]⟩ : ByteArray), false⟩ : Line)]⟩ : Edit), (⟨3, [(⟨(⟨#[99]⟩ : ByteArray), false⟩ : Line)]⟩ : Edit)]).length) c75, Value.int .i64 0]) _ (r_move) ?_
  refine FWl.val 12 rfl rfl (Value.slice A74 (([(⟨2, [(⟨(⟨#[98]⟩ : ByteArray), false⟩ : Line)]⟩ : Edit), (⟨3, [(⟨(⟨#[99]⟩ : ByteArray), false⟩ : Line)]⟩ : Edit)]).length) c75) _ (r_extract rfl rfl) ?_
  refine FWl.val 13 rfl rfl (Value.int .i64 0) _ (r_extract rfl rfl) ?_
  refine FWl.val 3 rfl rfl (Value.slice A74 (([(⟨2, [(⟨(⟨#[98]⟩ : ByteArray), false⟩ : Line)]⟩ : Edit), (⟨3, [(⟨(⟨#[99]⟩ : ByteArray), false⟩ : Line)]⟩ : Edit)]).length) c75) _ (r_assign) ?_
  refine FWl.val 4 rfl rfl (Value.int .i64 0) _ (r_assign) ?_
  refine FWl.nil (hK29 _ _ ?_)
  clear hK29 K29
  refine FW.seq_k fun K30 hK30 => ?_
  refine FW.region rfl ?_
  refine FWl.val 15 rfl rfl (Value.pointer (some ⟨g54, 4, none⟩)) _ (r_fieldAddrS Try.underlying82 rfl Try.sizeOf26 rfl rfl rfl rfl) ?_
  refine FWl.val 16 rfl rfl (Value.slice A6 (([(⟨2, [(⟨(⟨#[98]⟩ : ByteArray), false⟩ : Line)]⟩ : Edit), (⟨3, [(⟨(⟨#[99]⟩ : ByteArray), false⟩ : Line)]⟩ : Edit)]).length) c7) _ (r_loadP1 Try.isAgg26 hcg63_83 rfl rfl hH84) ?_
  refine FWl.call 17 rfl rfl 20 #[Value.slice A6 (([(⟨2, [(⟨(⟨#[98]⟩ : ByteArray), false⟩ : Line)]⟩ : Edit), (⟨3, [(⟨(⟨#[99]⟩ : ByteArray), false⟩ : Line)]⟩ : Edit)]).length) c7] (r_call1 Try.call20 rfl rfl) ((Sides_c hH84 hs8_80 ⟨by decide, by decide, by intro x hx; simp at hx; rcases hx with rfl | rfl <;> decide⟩).mono ?_)
  rintro _ w87 ⟨C88, A90, c91, A92, c93, rfl, e89, h94, h95⟩
  have hE_96 := hE_77.step e89
  have hs8_99 := hs8_80.mono e89.le
  have hcg47_101 := hcg47_82.mono e89.le
  have hcg63_102 := hcg63_83.mono e89.le
  have hs86_104 := hs86.mono e89.le
  have hH105 := e89.has
  have hs107 : Sl kLine C88 A90 c91 [(⟨(⟨#[98]⟩ : ByteArray), false⟩ : Line)] := h94.lit (by rfl)
  have hs109 : Sl kLine C88 A92 c93 [(⟨(⟨#[99]⟩ : ByteArray), false⟩ : Line)] := h95.lit (by rfl)
  refine FWl.val 14 rfl rfl (Value.tuple #[Value.slice A90 (([(⟨(⟨#[98]⟩ : ByteArray), false⟩ : Line)]).length) c91, Value.slice A92 (([(⟨(⟨#[99]⟩ : ByteArray), false⟩ : Line)]).length) c93, Value.int .i64 0]) _ (r_move) ?_
  refine FWl.val 18 rfl rfl (Value.slice A90 (([(⟨(⟨#[98]⟩ : ByteArray), false⟩ : Line)]).length) c91) _ (r_extract rfl rfl) ?_
  refine FWl.val 19 rfl rfl (Value.slice A92 (([(⟨(⟨#[99]⟩ : ByteArray), false⟩ : Line)]).length) c93) _ (r_extract rfl rfl) ?_
  refine FWl.val 20 rfl rfl (Value.int .i64 0) _ (r_extract rfl rfl) ?_
  refine FWl.val 5 rfl rfl (Value.slice A90 (([(⟨(⟨#[98]⟩ : ByteArray), false⟩ : Line)]).length) c91) _ (r_assign) ?_
  refine FWl.val 6 rfl rfl (Value.slice A92 (([(⟨(⟨#[99]⟩ : ByteArray), false⟩ : Line)]).length) c93) _ (r_assign) ?_
  refine FWl.val 7 rfl rfl (Value.int .i64 0) _ (r_assign) ?_
  refine FWl.nil (hK30 _ _ ?_)
  clear hK30 K30
  refine FW.seq_k fun K31 hK31 => ?_
  refine FW.region rfl ?_
  refine FWl.val 21 rfl rfl (Value.int .i64 0) _ (r_move) ?_
  refine FWl.val 22 rfl rfl (Value.bool true) _ (r_eql (a := 0) (b := 0) rfl rfl) ?_
  refine FWl.val 23 rfl rfl (Value.bool true) _ (r_move) ?_
  refine FWl.val 24 rfl rfl (Value.slice A74 (([(⟨2, [(⟨(⟨#[98]⟩ : ByteArray), false⟩ : Line)]⟩ : Edit), (⟨3, [(⟨(⟨#[99]⟩ : ByteArray), false⟩ : Line)]⟩ : Edit)]).length) c75) _ (r_move) ?_
  refine FWl.val 25 rfl rfl (Value.pointer (some ⟨g54, 4, none⟩)) _ (r_fieldAddrS Try.underlying82 rfl Try.sizeOf26 rfl rfl rfl rfl) ?_
  refine FWl.val 26 rfl rfl (Value.slice A6 (([(⟨2, [(⟨(⟨#[98]⟩ : ByteArray), false⟩ : Line)]⟩ : Edit), (⟨3, [(⟨(⟨#[99]⟩ : ByteArray), false⟩ : Line)]⟩ : Edit)]).length) c7) _ (r_loadP1 Try.isAgg26 hcg63_102 rfl rfl hH105) ?_
  refine FWl.call 27 rfl rfl 63 #[Value.slice A74 (([(⟨2, [(⟨(⟨#[98]⟩ : ByteArray), false⟩ : Line)]⟩ : Edit), (⟨3, [(⟨(⟨#[99]⟩ : ByteArray), false⟩ : Line)]⟩ : Edit)]).length) c75, Value.slice A6 (([(⟨2, [(⟨(⟨#[98]⟩ : ByteArray), false⟩ : Line)]⟩ : Edit), (⟨3, [(⟨(⟨#[99]⟩ : ByteArray), false⟩ : Line)]⟩ : Edit)]).length) c7] (r_call2 Try.call63 rfl rfl rfl) (Ret.of Try.func63 rfl Try.ntmps63 rfl ?_)
  refine FW.seq_k fun K32 hK32 => ?_
  refine FW.region rfl ?_
  refine FWl.val 4 rfl rfl (Value.bool false) _ (r_assign) ?_
  refine FWl.nil (hK32 _ _ ?_)
  clear hK32 K32
  refine FW.seq_k fun K33 hK33 => ?_
  refine FW.region rfl ?_
  refine FWl.val 5 rfl rfl (Value.slice A74 (([(⟨2, [(⟨(⟨#[98]⟩ : ByteArray), false⟩ : Line)]⟩ : Edit), (⟨3, [(⟨(⟨#[99]⟩ : ByteArray), false⟩ : Line)]⟩ : Edit)]).length) c75) _ (r_move) ?_
  refine FWl.val 6 rfl rfl (Value.slice A6 (([(⟨2, [(⟨(⟨#[98]⟩ : ByteArray), false⟩ : Line)]⟩ : Edit), (⟨3, [(⟨(⟨#[99]⟩ : ByteArray), false⟩ : Line)]⟩ : Edit)]).length) c7) _ (r_move) ?_
  refine FWl.call 7 rfl rfl 68 #[Value.slice A74 (([(⟨2, [(⟨(⟨#[98]⟩ : ByteArray), false⟩ : Line)]⟩ : Edit), (⟨3, [(⟨(⟨#[99]⟩ : ByteArray), false⟩ : Line)]⟩ : Edit)]).length) c75, Value.slice A6 (([(⟨2, [(⟨(⟨#[98]⟩ : ByteArray), false⟩ : Line)]⟩ : Edit), (⟨3, [(⟨(⟨#[99]⟩ : ByteArray), false⟩ : Line)]⟩ : Edit)]).length) c7, Value.func (.func 69) #[] #[]] (r_call3 Try.call68 rfl rfl rfl rfl) (Ret.of Try.func68 rfl Try.ntmps68 rfl ?_)
  refine FW.seq_k fun K34 hK34 => ?_
  refine FW.region rfl ?_
  refine FWl.val 6 rfl rfl (Value.bool false) _ (r_assign) ?_
  refine FWl.nil (hK34 _ _ ?_)
  clear hK34 K34
  refine FW.seq_k fun K35 hK35 => ?_
  refine FW.seq_k fun K36 hK36 => ?_
  refine FW.region rfl ?_
  refine FWl.val 10 rfl rfl (Value.slice A74 (([(⟨2, [(⟨(⟨#[98]⟩ : ByteArray), false⟩ : Line)]⟩ : Edit), (⟨3, [(⟨(⟨#[99]⟩ : ByteArray), false⟩ : Line)]⟩ : Edit)]).length) c75) _ (r_move) ?_
  refine FWl.val 11 rfl rfl (Value.int .i64 2) _ (r_lenSl Try.underlying26 rfl) ?_
  refine FWl.val 12 rfl rfl (Value.slice A6 (([(⟨2, [(⟨(⟨#[98]⟩ : ByteArray), false⟩ : Line)]⟩ : Edit), (⟨3, [(⟨(⟨#[99]⟩ : ByteArray), false⟩ : Line)]⟩ : Edit)]).length) c7) _ (r_move) ?_
  refine FWl.val 13 rfl rfl (Value.int .i64 2) _ (r_lenSl Try.underlying26 rfl) ?_
  refine FWl.val 14 rfl rfl (Value.bool false) _ (r_neq (a := 2) (b := 2) rfl rfl) ?_
  refine FWl.nil (hK36 _ _ ?_)
  clear hK36 K36
  refine FW.cond false rfl (fun h => nomatch h) (fun _ => ?_)
  refine FW.skip (hK35 _ _ ?_)
  clear hK35 K35
  refine FW.seq_k fun K37 hK37 => ?_
  refine FW.seq_k fun K38 hK38 => ?_
  refine FW.region rfl ?_
  refine FWl.val 15 rfl rfl (Value.slice A74 (([(⟨2, [(⟨(⟨#[98]⟩ : ByteArray), false⟩ : Line)]⟩ : Edit), (⟨3, [(⟨(⟨#[99]⟩ : ByteArray), false⟩ : Line)]⟩ : Edit)]).length) c75) _ (r_move) ?_
  refine FWl.val 16 rfl rfl (Value.int .i64 2) _ (r_lenSl Try.underlying26 rfl) ?_
  refine FWl.val 17 rfl rfl (Value.int .i64 0) _ (r_move) ?_
  refine FWl.nil (hK38 _ _ ?_)
  clear hK38 K38
  refine FW.block ?_
  refine FW.loop_in (FWL.unroll ?_)
  refine FW.seq_k fun K39 hK39 => ?_
  refine FW.region rfl ?_
  refine FWl.val 18 rfl rfl (Value.bool true) _ (r_lss (a := 0) (b := 2) rfl rfl) ?_
  refine FWl.nil (hK39 _ _ ?_)
  clear hK39 K39
  refine FW.seq_k fun K40 hK40 => ?_
  refine FW.cond true rfl (fun _ => ?_) (fun h => nomatch h)
  refine FW.skip (hK40 _ _ ?_)
  clear hK40 K40
  refine FW.seq_k fun K41 hK41 => ?_
  refine FW.block ?_
  refine FW.seq_k fun K42 hK42 => ?_
  refine FW.region rfl ?_
  refine FWl.val 19 rfl rfl (Value.int .i64 0) _ (r_move) ?_
  have hx111 : ([(⟨2, [(⟨(⟨#[98]⟩ : ByteArray), false⟩ : Line)]⟩ : Edit), (⟨3, [(⟨(⟨#[99]⟩ : ByteArray), false⟩ : Line)]⟩ : Edit)] : List Edit)[(0 : Int).toNat]? = some (⟨2, [(⟨(⟨#[98]⟩ : ByteArray), false⟩ : Line)]⟩ : Edit) := rfl
  obtain ⟨cs112, hr113, hg114⟩ := hs86_104.at_ _ _ hx111
  obtain ⟨A115, c116, rfl, hs117⟩ := hr113
  refine FWl.val 20 rfl rfl (ptrAt A74 ((0 : Int).toNat * 2)) _ (r_indexAddr Try.underlying26 Try.sizeOf57 rfl rfl (hs86_104.isSome (by simp)) (by omega) (by simp)) ?_
  refine FWl.val 21 rfl rfl (Value.agg #[Value.int .i64 2, Value.slice A115 (([(⟨(⟨#[98]⟩ : ByteArray), false⟩ : Line)]).length) c116]) _ (r_loadGN Try.isAgg57 Try.sizeOf57 hg114 rfl hH105) ?_
  refine FWl.alloc (cs := [Value.int .i64 0, Value.slice none 0 0]) rfl rfl rfl Try.zeroValue57 rfl hH105 ?_
  intro g118 w119 st120 e121 hg122
  have hge_st120_hE := Nat.le_trans hE_96.size (Nat.le_of_eq hg122)
  have hE_123 := hE_96.step e121
  have hH124 := e121.has
  have hlt_st120 := st120.lt
  refine FWl.val 7 rfl rfl (Value.int .i64 0) _ (r_assign) ?_
  refine FWl.store (vs := [Value.int .i64 2, Value.slice A115 (([(⟨(⟨#[98]⟩ : ByteArray), false⟩ : Line)]).length) c116]) (cs' := [Value.int .i64 2, Value.slice A115 (([(⟨(⟨#[98]⟩ : ByteArray), false⟩ : Line)]).length) c116]) rfl rfl rfl Try.sizeOf57 rfl st120 hH124 rfl rfl rfl rfl rfl rfl ?_
  intro w125 m126 st120_127
  have hE_128 := hE_123.trans (m126.ext hE_123.size (by omega))
  have hH129 := m126.has
  obtain ⟨C130, m131, hcg132⟩ := st120_127.commit hH129
  have hE_133 := hE_128.trans (m131.ext hE_128.size (by omega))
  have hH134 := m131.has
  have hs8_137 := hs8_99.mono m131.le
  have hcg47_139 := hcg47_101.mono m131.le
  have hcg63_140 := hcg63_102.mono m131.le
  have hs86_142 := hs86_104.mono m131.le
  have hs117_148 := hs117.mono m131.le
  refine FWl.nil (hK42 _ _ ?_)
  clear hK42 K42
  refine FW.seq_k fun K43 hK43 => ?_
  refine FW.region rfl ?_
  refine FWl.val 22 rfl rfl (Value.slice A6 (([(⟨2, [(⟨(⟨#[98]⟩ : ByteArray), false⟩ : Line)]⟩ : Edit), (⟨3, [(⟨(⟨#[99]⟩ : ByteArray), false⟩ : Line)]⟩ : Edit)]).length) c7) _ (r_move) ?_
  refine FWl.val 23 rfl rfl (Value.int .i64 0) _ (r_move) ?_
  have hx150 : ([(⟨2, [(⟨(⟨#[98]⟩ : ByteArray), false⟩ : Line)]⟩ : Edit), (⟨3, [(⟨(⟨#[99]⟩ : ByteArray), false⟩ : Line)]⟩ : Edit)] : List Edit)[(0 : Int).toNat]? = some (⟨2, [(⟨(⟨#[98]⟩ : ByteArray), false⟩ : Line)]⟩ : Edit) := rfl
  obtain ⟨cs151, hr152, hg153⟩ := hs8_137.at_ _ _ hx150
  obtain ⟨A154, c155, rfl, hs156⟩ := hr152
  refine FWl.val 24 rfl rfl (ptrAt A6 ((0 : Int).toNat * 2)) _ (r_indexAddr Try.underlying26 Try.sizeOf57 rfl rfl (hs8_137.isSome (by simp)) (by omega) (by simp)) ?_
  refine FWl.val 25 rfl rfl (Value.agg #[Value.int .i64 2, Value.slice A154 (([(⟨(⟨#[98]⟩ : ByteArray), false⟩ : Line)]).length) c155]) _ (r_loadGN Try.isAgg57 Try.sizeOf57 hg153 rfl hH134) ?_
  refine FWl.alloc (cs := [Value.int .i64 0, Value.slice none 0 0]) rfl rfl rfl Try.zeroValue57 rfl hH134 ?_
  intro g157 w158 st159 e160 hg161
  have hge_st159_hE := Nat.le_trans hE_133.size (Nat.le_of_eq hg161)
  have hE_162 := hE_133.step e160
  have hH163 := e160.has
  have hlt_st159 := st159.lt
  refine FWl.store (vs := [Value.int .i64 2, Value.slice A154 (([(⟨(⟨#[98]⟩ : ByteArray), false⟩ : Line)]).length) c155]) (cs' := [Value.int .i64 2, Value.slice A154 (([(⟨(⟨#[98]⟩ : ByteArray), false⟩ : Line)]).length) c155]) rfl rfl rfl Try.sizeOf57 rfl st159 hH163 rfl rfl rfl rfl rfl rfl ?_
  intro w164 m165 st159_166
  have hE_167 := hE_162.trans (m165.ext hE_162.size (by omega))
  have hH168 := m165.has
  obtain ⟨C169, m170, hcg171⟩ := st159_166.commit hH168
  have hE_172 := hE_167.trans (m170.ext hE_167.size (by omega))
  have hH173 := m170.has
  have hs8_176 := hs8_137.mono m170.le
  have hcg47_178 := hcg47_139.mono m170.le
  have hcg63_179 := hcg63_140.mono m170.le
  have hs86_181 := hs86_142.mono m170.le
  have hs117_187 := hs117_148.mono m170.le
  have hcg132_188 := hcg132.mono m170.le
  have hs156_190 := hs156.mono m170.le
  refine FWl.nil (hK43 _ _ ?_)
  clear hK43 K43
  refine FW.seq_k fun K44 hK44 => ?_
  refine FW.region rfl ?_
  refine FWl.val 26 rfl rfl (Value.func (.func 69) #[] #[]) _ (r_move) ?_
  refine FWl.val 27 rfl rfl (Value.agg #[Value.int .i64 2, Value.slice A115 (([(⟨(⟨#[98]⟩ : ByteArray), false⟩ : Line)]).length) c116]) _ (r_loadPN Try.isAgg57 Try.sizeOf57 hcg132_188 rfl hH173) ?_
  refine FWl.val 28 rfl rfl (Value.agg #[Value.int .i64 2, Value.slice A154 (([(⟨(⟨#[98]⟩ : ByteArray), false⟩ : Line)]).length) c155]) _ (r_loadPN Try.isAgg57 Try.sizeOf57 hcg171 rfl hH173) ?_
  refine FWl.call 29 rfl rfl 69 #[Value.agg #[Value.int .i64 2, Value.slice A115 (([(⟨(⟨#[98]⟩ : ByteArray), false⟩ : Line)]).length) c116], Value.agg #[Value.int .i64 2, Value.slice A154 (([(⟨(⟨#[98]⟩ : ByteArray), false⟩ : Line)]).length) c155]] (r_callV2 Try.call69 rfl rfl rfl rfl) (Ret.of Try.func69 rfl Try.ntmps69 rfl ?_)
  refine FW.seq_k fun K45 hK45 => ?_
  refine FW.region rfl ?_
  refine FWl.box (cs := [Value.int .i64 2, Value.slice A115 (([(⟨(⟨#[98]⟩ : ByteArray), false⟩ : Line)]).length) c116]) rfl rfl rfl rfl rfl hH173 ?_
  intro g191 w192 st193 e194 hg195
  have hge_st193_hE := Nat.le_trans hE_172.size (Nat.le_of_eq hg195)
  have hE_196 := hE_172.step e194
  have hH197 := e194.has
  have hlt_st193 := st193.lt
  obtain ⟨C198, m199, hcg200⟩ := st193.commit hH197
  have hE_201 := hE_196.trans (m199.ext hE_196.size (by omega))
  have hH202 := m199.has
  have hs8_205 := hs8_176.mono m199.le
  have hcg47_207 := hcg47_178.mono m199.le
  have hcg63_208 := hcg63_179.mono m199.le
  have hs86_210 := hs86_181.mono m199.le
  have hs117_216 := hs117_187.mono m199.le
  have hs156_219 := hs156_190.mono m199.le
  refine FWl.box (cs := [Value.int .i64 2, Value.slice A154 (([(⟨(⟨#[98]⟩ : ByteArray), false⟩ : Line)]).length) c155]) rfl rfl rfl rfl rfl hH202 ?_
  intro g221 w222 st223 e224 hg225
  have hge_st223_hE := Nat.le_trans hE_201.size (Nat.le_of_eq hg225)
  have hE_226 := hE_201.step e224
  have hH227 := e224.has
  have hlt_st223 := st223.lt
  obtain ⟨C228, m229, hcg230⟩ := st223.commit hH227
  have hE_231 := hE_226.trans (m229.ext hE_226.size (by omega))
  have hH232 := m229.has
  have hs8_235 := hs8_205.mono m229.le
  have hcg47_237 := hcg47_207.mono m229.le
  have hcg63_238 := hcg63_208.mono m229.le
  have hs86_240 := hs86_210.mono m229.le
  have hs117_246 := hs117_216.mono m229.le
  have hs156_249 := hs156_219.mono m229.le
  have hcg200_251 := hcg200.mono m229.le
  refine FWl.val 4 rfl rfl (Value.bool false) _ (r_assign) ?_
  refine FWl.nil (hK45 _ _ ?_)
  clear hK45 K45
  refine FW.seq_k fun K46 hK46 => ?_
  refine FW.region rfl ?_
  refine FWl.val 5 rfl rfl (Value.pointer (some ⟨g191, 0, none⟩)) _ (r_fieldAddrS Try.underlying57 rfl Try.sizeOf55 rfl rfl rfl rfl) ?_
  refine FWl.val 6 rfl rfl (Value.int .i64 2) _ (r_loadP1 Try.isAgg55 hcg200_251 rfl rfl hH232) ?_
  refine FWl.val 7 rfl rfl (Value.pointer (some ⟨g221, 0, none⟩)) _ (r_fieldAddrS Try.underlying57 rfl Try.sizeOf55 rfl rfl rfl rfl) ?_
  refine FWl.val 8 rfl rfl (Value.int .i64 2) _ (r_loadP1 Try.isAgg55 hcg230 rfl rfl hH232) ?_
  refine FWl.val 9 rfl rfl (Value.bool true) _ (r_eql (a := 2) (b := 2) rfl rfl) ?_
  refine FWl.val 10 rfl rfl (Value.bool true) _ (r_move) ?_
  refine FWl.val 11 rfl rfl (Value.pointer (some ⟨g191, 1, none⟩)) _ (r_fieldAddrS Try.underlying57 rfl Try.sizeOf22 rfl rfl rfl rfl) ?_
  refine FWl.val 12 rfl rfl (Value.slice A115 (([(⟨(⟨#[98]⟩ : ByteArray), false⟩ : Line)]).length) c116) _ (r_loadP1 Try.isAgg22 hcg200_251 rfl rfl hH232) ?_
  refine FWl.val 13 rfl rfl (Value.pointer (some ⟨g221, 1, none⟩)) _ (r_fieldAddrS Try.underlying57 rfl Try.sizeOf22 rfl rfl rfl rfl) ?_
  refine FWl.val 14 rfl rfl (Value.slice A154 (([(⟨(⟨#[98]⟩ : ByteArray), false⟩ : Line)]).length) c155) _ (r_loadP1 Try.isAgg22 hcg230 rfl rfl hH232) ?_
  refine FWl.call 15 rfl rfl 21 #[Value.slice A115 (([(⟨(⟨#[98]⟩ : ByteArray), false⟩ : Line)]).length) c116, Value.slice A154 (([(⟨(⟨#[98]⟩ : ByteArray), false⟩ : Line)]).length) c155] (r_call2 Try.call21 rfl rfl rfl) ((equalLine_c hH232 hs117_246 hs156_249).mono ?_)
  rintro _ w252 ⟨rfl, e254⟩
  have hE_255 := hE_231.step e254
  have hH256 := e254.has
  refine FWl.val 16 rfl rfl (Value.bool true) _ (r_pick (t := true) rfl) ?_
  refine FWl.val 4 rfl rfl (Value.bool true) _ (r_assign) ?_
  refine FWl.nil (hK46 _ _ ?_)
  clear hK46 K46
  refine FW.ret (?_)
  refine ret_tmp (v := Value.bool true) Try.results69 (.inl rfl) rfl ?_
  refine FWl.val 30 rfl rfl (Value.bool false) _ (r_not (b := true) rfl) ?_
  refine FWl.nil (hK44 _ _ ?_)
  clear hK44 K44
  refine FW.cond false rfl (fun h => nomatch h) (fun _ => ?_)
  refine FW.skip (hK41 _ _ ?_)
  clear hK41 K41
  refine FW.region rfl ?_
  refine FWl.val 31 rfl rfl (Value.int .i64 1) _ (r_addE (a := 0) (b := 1) rfl rfl (by decide)) ?_
  refine FWl.val 17 rfl rfl (Value.int .i64 1) _ (r_move) ?_
  refine FWl.nil (thenF_round ?_)
  refine FW.seq_k fun K47 hK47 => ?_
  refine FW.region rfl ?_
  refine FWl.val 18 rfl rfl (Value.bool true) _ (r_lss (a := 1) (b := 2) rfl rfl) ?_
  refine FWl.nil (hK47 _ _ ?_)
  clear hK47 K47
  refine FW.seq_k fun K48 hK48 => ?_
  refine FW.cond true rfl (fun _ => ?_) (fun h => nomatch h)
  refine FW.skip (hK48 _ _ ?_)
  clear hK48 K48
  refine FW.seq_k fun K49 hK49 => ?_
  refine FW.block ?_
  refine FW.seq_k fun K50 hK50 => ?_
  refine FW.region rfl ?_
  refine FWl.val 19 rfl rfl (Value.int .i64 1) _ (r_move) ?_
  have hx258 : ([(⟨2, [(⟨(⟨#[98]⟩ : ByteArray), false⟩ : Line)]⟩ : Edit), (⟨3, [(⟨(⟨#[99]⟩ : ByteArray), false⟩ : Line)]⟩ : Edit)] : List Edit)[(1 : Int).toNat]? = some (⟨3, [(⟨(⟨#[99]⟩ : ByteArray), false⟩ : Line)]⟩ : Edit) := rfl
  obtain ⟨cs259, hr260, hg261⟩ := hs86_240.at_ _ _ hx258
  obtain ⟨A262, c263, rfl, hs264⟩ := hr260
  refine FWl.val 20 rfl rfl (ptrAt A74 ((1 : Int).toNat * 2)) _ (r_indexAddr Try.underlying26 Try.sizeOf57 rfl rfl (hs86_240.isSome (by simp)) (by omega) (by simp)) ?_
  refine FWl.val 21 rfl rfl (Value.agg #[Value.int .i64 3, Value.slice A262 (([(⟨(⟨#[99]⟩ : ByteArray), false⟩ : Line)]).length) c263]) _ (r_loadGN Try.isAgg57 Try.sizeOf57 hg261 rfl hH256) ?_
  refine FWl.alloc (cs := [Value.int .i64 0, Value.slice none 0 0]) rfl rfl rfl Try.zeroValue57 rfl hH256 ?_
  intro g265 w266 st267 e268 hg269
  have hge_st267_hE := Nat.le_trans hE_255.size (Nat.le_of_eq hg269)
  have hE_270 := hE_255.step e268
  have hH271 := e268.has
  have hlt_st267 := st267.lt
  refine FWl.val 7 rfl rfl (Value.int .i64 1) _ (r_assign) ?_
  refine FWl.store (vs := [Value.int .i64 3, Value.slice A262 (([(⟨(⟨#[99]⟩ : ByteArray), false⟩ : Line)]).length) c263]) (cs' := [Value.int .i64 3, Value.slice A262 (([(⟨(⟨#[99]⟩ : ByteArray), false⟩ : Line)]).length) c263]) rfl rfl rfl Try.sizeOf57 rfl st267 hH271 rfl rfl rfl rfl rfl rfl ?_
  intro w272 m273 st267_274
  have hE_275 := hE_270.trans (m273.ext hE_270.size (by omega))
  have hH276 := m273.has
  obtain ⟨C277, m278, hcg279⟩ := st267_274.commit hH276
  have hE_280 := hE_275.trans (m278.ext hE_275.size (by omega))
  have hH281 := m278.has
  have hs8_284 := hs8_235.mono m278.le
  have hcg47_286 := hcg47_237.mono m278.le
  have hcg63_287 := hcg63_238.mono m278.le
  have hs86_289 := hs86_240.mono m278.le
  have hs264_303 := hs264.mono m278.le
  refine FWl.nil (hK50 _ _ ?_)
  clear hK50 K50
  refine FW.seq_k fun K51 hK51 => ?_
  refine FW.region rfl ?_
  refine FWl.val 22 rfl rfl (Value.slice A6 (([(⟨2, [(⟨(⟨#[98]⟩ : ByteArray), false⟩ : Line)]⟩ : Edit), (⟨3, [(⟨(⟨#[99]⟩ : ByteArray), false⟩ : Line)]⟩ : Edit)]).length) c7) _ (r_move) ?_
  refine FWl.val 23 rfl rfl (Value.int .i64 1) _ (r_move) ?_
  have hx305 : ([(⟨2, [(⟨(⟨#[98]⟩ : ByteArray), false⟩ : Line)]⟩ : Edit), (⟨3, [(⟨(⟨#[99]⟩ : ByteArray), false⟩ : Line)]⟩ : Edit)] : List Edit)[(1 : Int).toNat]? = some (⟨3, [(⟨(⟨#[99]⟩ : ByteArray), false⟩ : Line)]⟩ : Edit) := rfl
  obtain ⟨cs306, hr307, hg308⟩ := hs8_284.at_ _ _ hx305
  obtain ⟨A309, c310, rfl, hs311⟩ := hr307
  refine FWl.val 24 rfl rfl (ptrAt A6 ((1 : Int).toNat * 2)) _ (r_indexAddr Try.underlying26 Try.sizeOf57 rfl rfl (hs8_284.isSome (by simp)) (by omega) (by simp)) ?_
  refine FWl.val 25 rfl rfl (Value.agg #[Value.int .i64 3, Value.slice A309 (([(⟨(⟨#[99]⟩ : ByteArray), false⟩ : Line)]).length) c310]) _ (r_loadGN Try.isAgg57 Try.sizeOf57 hg308 rfl hH281) ?_
  refine FWl.alloc (cs := [Value.int .i64 0, Value.slice none 0 0]) rfl rfl rfl Try.zeroValue57 rfl hH281 ?_
  intro g312 w313 st314 e315 hg316
  have hge_st314_hE := Nat.le_trans hE_280.size (Nat.le_of_eq hg316)
  have hE_317 := hE_280.step e315
  have hH318 := e315.has
  have hlt_st314 := st314.lt
  refine FWl.store (vs := [Value.int .i64 3, Value.slice A309 (([(⟨(⟨#[99]⟩ : ByteArray), false⟩ : Line)]).length) c310]) (cs' := [Value.int .i64 3, Value.slice A309 (([(⟨(⟨#[99]⟩ : ByteArray), false⟩ : Line)]).length) c310]) rfl rfl rfl Try.sizeOf57 rfl st314 hH318 rfl rfl rfl rfl rfl rfl ?_
  intro w319 m320 st314_321
  have hE_322 := hE_317.trans (m320.ext hE_317.size (by omega))
  have hH323 := m320.has
  obtain ⟨C324, m325, hcg326⟩ := st314_321.commit hH323
  have hE_327 := hE_322.trans (m325.ext hE_322.size (by omega))
  have hH328 := m325.has
  have hcg47_333 := hcg47_286.mono m325.le
  have hcg63_334 := hcg63_287.mono m325.le
  have hs86_336 := hs86_289.mono m325.le
  have hs264_350 := hs264_303.mono m325.le
  have hcg279_351 := hcg279.mono m325.le
  have hs311_353 := hs311.mono m325.le
  refine FWl.nil (hK51 _ _ ?_)
  clear hK51 K51
  refine FW.seq_k fun K52 hK52 => ?_
  refine FW.region rfl ?_
  refine FWl.val 26 rfl rfl (Value.func (.func 69) #[] #[]) _ (r_move) ?_
  refine FWl.val 27 rfl rfl (Value.agg #[Value.int .i64 3, Value.slice A262 (([(⟨(⟨#[99]⟩ : ByteArray), false⟩ : Line)]).length) c263]) _ (r_loadPN Try.isAgg57 Try.sizeOf57 hcg279_351 rfl hH328) ?_
  refine FWl.val 28 rfl rfl (Value.agg #[Value.int .i64 3, Value.slice A309 (([(⟨(⟨#[99]⟩ : ByteArray), false⟩ : Line)]).length) c310]) _ (r_loadPN Try.isAgg57 Try.sizeOf57 hcg326 rfl hH328) ?_
  refine FWl.call 29 rfl rfl 69 #[Value.agg #[Value.int .i64 3, Value.slice A262 (([(⟨(⟨#[99]⟩ : ByteArray), false⟩ : Line)]).length) c263], Value.agg #[Value.int .i64 3, Value.slice A309 (([(⟨(⟨#[99]⟩ : ByteArray), false⟩ : Line)]).length) c310]] (r_callV2 Try.call69 rfl rfl rfl rfl) (Ret.of Try.func69 rfl Try.ntmps69 rfl ?_)
  refine FW.seq_k fun K53 hK53 => ?_
  refine FW.region rfl ?_
  refine FWl.box (cs := [Value.int .i64 3, Value.slice A262 (([(⟨(⟨#[99]⟩ : ByteArray), false⟩ : Line)]).length) c263]) rfl rfl rfl rfl rfl hH328 ?_
  intro g354 w355 st356 e357 hg358
  have hge_st356_hE := Nat.le_trans hE_327.size (Nat.le_of_eq hg358)
  have hE_359 := hE_327.step e357
  have hH360 := e357.has
  have hlt_st356 := st356.lt
  obtain ⟨C361, m362, hcg363⟩ := st356.commit hH360
  have hE_364 := hE_359.trans (m362.ext hE_359.size (by omega))
  have hH365 := m362.has
  have hcg47_370 := hcg47_333.mono m362.le
  have hcg63_371 := hcg63_334.mono m362.le
  have hs86_373 := hs86_336.mono m362.le
  have hs264_387 := hs264_350.mono m362.le
  have hs311_390 := hs311_353.mono m362.le
  refine FWl.box (cs := [Value.int .i64 3, Value.slice A309 (([(⟨(⟨#[99]⟩ : ByteArray), false⟩ : Line)]).length) c310]) rfl rfl rfl rfl rfl hH365 ?_
  intro g392 w393 st394 e395 hg396
  have hge_st394_hE := Nat.le_trans hE_364.size (Nat.le_of_eq hg396)
  have hE_397 := hE_364.step e395
  have hH398 := e395.has
  have hlt_st394 := st394.lt
  obtain ⟨C399, m400, hcg401⟩ := st394.commit hH398
  have hE_402 := hE_397.trans (m400.ext hE_397.size (by omega))
  have hH403 := m400.has
  have hcg47_408 := hcg47_370.mono m400.le
  have hcg63_409 := hcg63_371.mono m400.le
  have hs86_411 := hs86_373.mono m400.le
  have hs264_425 := hs264_387.mono m400.le
  have hs311_428 := hs311_390.mono m400.le
  have hcg363_430 := hcg363.mono m400.le
  refine FWl.val 4 rfl rfl (Value.bool false) _ (r_assign) ?_
  refine FWl.nil (hK53 _ _ ?_)
  clear hK53 K53
  refine FW.seq_k fun K54 hK54 => ?_
  refine FW.region rfl ?_
  refine FWl.val 5 rfl rfl (Value.pointer (some ⟨g354, 0, none⟩)) _ (r_fieldAddrS Try.underlying57 rfl Try.sizeOf55 rfl rfl rfl rfl) ?_
  refine FWl.val 6 rfl rfl (Value.int .i64 3) _ (r_loadP1 Try.isAgg55 hcg363_430 rfl rfl hH403) ?_
  refine FWl.val 7 rfl rfl (Value.pointer (some ⟨g392, 0, none⟩)) _ (r_fieldAddrS Try.underlying57 rfl Try.sizeOf55 rfl rfl rfl rfl) ?_
  refine FWl.val 8 rfl rfl (Value.int .i64 3) _ (r_loadP1 Try.isAgg55 hcg401 rfl rfl hH403) ?_
  refine FWl.val 9 rfl rfl (Value.bool true) _ (r_eql (a := 3) (b := 3) rfl rfl) ?_
  refine FWl.val 10 rfl rfl (Value.bool true) _ (r_move) ?_
  refine FWl.val 11 rfl rfl (Value.pointer (some ⟨g354, 1, none⟩)) _ (r_fieldAddrS Try.underlying57 rfl Try.sizeOf22 rfl rfl rfl rfl) ?_
  refine FWl.val 12 rfl rfl (Value.slice A262 (([(⟨(⟨#[99]⟩ : ByteArray), false⟩ : Line)]).length) c263) _ (r_loadP1 Try.isAgg22 hcg363_430 rfl rfl hH403) ?_
  refine FWl.val 13 rfl rfl (Value.pointer (some ⟨g392, 1, none⟩)) _ (r_fieldAddrS Try.underlying57 rfl Try.sizeOf22 rfl rfl rfl rfl) ?_
  refine FWl.val 14 rfl rfl (Value.slice A309 (([(⟨(⟨#[99]⟩ : ByteArray), false⟩ : Line)]).length) c310) _ (r_loadP1 Try.isAgg22 hcg401 rfl rfl hH403) ?_
  refine FWl.call 15 rfl rfl 21 #[Value.slice A262 (([(⟨(⟨#[99]⟩ : ByteArray), false⟩ : Line)]).length) c263, Value.slice A309 (([(⟨(⟨#[99]⟩ : ByteArray), false⟩ : Line)]).length) c310] (r_call2 Try.call21 rfl rfl rfl) ((equalLine_c hH403 hs264_425 hs311_428).mono ?_)
  rintro _ w431 ⟨rfl, e433⟩
  have hE_434 := hE_402.step e433
  have hH435 := e433.has
  refine FWl.val 16 rfl rfl (Value.bool true) _ (r_pick (t := true) rfl) ?_
  refine FWl.val 4 rfl rfl (Value.bool true) _ (r_assign) ?_
  refine FWl.nil (hK54 _ _ ?_)
  clear hK54 K54
  refine FW.ret (?_)
  refine ret_tmp (v := Value.bool true) Try.results69 (.inl rfl) rfl ?_
  refine FWl.val 30 rfl rfl (Value.bool false) _ (r_not (b := true) rfl) ?_
  refine FWl.nil (hK52 _ _ ?_)
  clear hK52 K52
  refine FW.cond false rfl (fun h => nomatch h) (fun _ => ?_)
  refine FW.skip (hK49 _ _ ?_)
  clear hK49 K49
  refine FW.region rfl ?_
  refine FWl.val 31 rfl rfl (Value.int .i64 2) _ (r_addE (a := 1) (b := 1) rfl rfl (by decide)) ?_
  refine FWl.val 17 rfl rfl (Value.int .i64 2) _ (r_move) ?_
  refine FWl.nil (thenF_round ?_)
  refine FW.seq_k fun K55 hK55 => ?_
  refine FW.region rfl ?_
  refine FWl.val 18 rfl rfl (Value.bool false) _ (r_lss (a := 2) (b := 2) rfl rfl) ?_
  refine FWl.nil (hK55 _ _ ?_)
  clear hK55 K55
  refine FW.seq_k fun K56 hK56 => ?_
  refine FW.cond false rfl (fun h => nomatch h) (fun _ => ?_)
  refine FW.exit (thenF_exit (thenF_exit (inBlockF_hit (hK37 _ _ ?_))))
  clear hK37 K37 hK56 K56
  refine FW.seq_k fun K57 hK57 => ?_
  refine FW.region rfl ?_
  refine FWl.val 6 rfl rfl (Value.bool true) _ (r_assign) ?_
  refine FWl.nil (hK57 _ _ ?_)
  clear hK57 K57
  refine FW.ret (?_)
  refine ret_tmp (v := Value.bool true) Try.results68 (.inl rfl) rfl ?_
  refine FWl.val 4 rfl rfl (Value.bool true) _ (r_assign) ?_
  refine FWl.nil (hK33 _ _ ?_)
  clear hK33 K33
  refine FW.ret (?_)
  refine ret_tmp (v := Value.bool true) Try.results63 (.inl rfl) rfl ?_
  refine FWl.val 28 rfl rfl (Value.bool true) _ (r_pick (t := true) rfl) ?_
  refine FWl.val 29 rfl rfl (Value.bool true) _ (r_move) ?_
  refine FWl.val 30 rfl rfl (Value.slice A74 (([(⟨2, [(⟨(⟨#[98]⟩ : ByteArray), false⟩ : Line)]⟩ : Edit), (⟨3, [(⟨(⟨#[99]⟩ : ByteArray), false⟩ : Line)]⟩ : Edit)]).length) c75) _ (r_move) ?_
  refine FWl.call 31 rfl rfl 9 #[Value.slice A74 (([(⟨2, [(⟨(⟨#[98]⟩ : ByteArray), false⟩ : Line)]⟩ : Edit), (⟨3, [(⟨(⟨#[99]⟩ : ByteArray), false⟩ : Line)]⟩ : Edit)]).length) c75] (r_call1 Try.call9 rfl rfl) ((Changed_c hH435 hs86_411 ⟨by decide, by decide, by intro x hx; simp at hx; rcases hx with rfl | rfl <;> decide⟩).mono ?_)
  rintro _ w436 ⟨C437, rfl, e438⟩
  have hE_439 := hE_434.step e438
  have hcg47_444 := hcg47_408.mono e438.le
  have hcg63_445 := hcg63_409.mono e438.le
  have hH468 := e438.has
  refine FWl.val 32 rfl rfl (Value.bool true) _ (r_gtr (a := 2) (b := 0) rfl rfl) ?_
  refine FWl.val 33 rfl rfl (Value.bool true) _ (r_pick (t := true) rfl) ?_
  refine FWl.val 34 rfl rfl (Value.bool true) _ (r_move) ?_
  refine FWl.val 35 rfl rfl (Value.slice A90 (([(⟨(⟨#[98]⟩ : ByteArray), false⟩ : Line)]).length) c91) _ (r_move) ?_
  refine FWl.val 36 rfl rfl (Value.int .i64 1) _ (r_lenSl Try.underlying22 rfl) ?_
  refine FWl.val 37 rfl rfl (Value.pointer (some ⟨g54, 1, none⟩)) _ (r_fieldAddrS Try.underlying82 rfl Try.sizeOf3 rfl rfl rfl rfl) ?_
  refine FWl.val 38 rfl rfl (Value.int .i64 1) _ (r_loadP1 Try.isAgg3 hcg63_445 rfl rfl hH468) ?_
  refine FWl.val 39 rfl rfl (Value.bool true) _ (r_eql (a := 1) (b := 1) rfl rfl) ?_
  refine FWl.val 40 rfl rfl (Value.bool true) _ (r_pick (t := true) rfl) ?_
  refine FWl.val 41 rfl rfl (Value.bool true) _ (r_move) ?_
  refine FWl.val 42 rfl rfl (Value.slice A92 (([(⟨(⟨#[99]⟩ : ByteArray), false⟩ : Line)]).length) c93) _ (r_move) ?_
  refine FWl.val 43 rfl rfl (Value.int .i64 1) _ (r_lenSl Try.underlying22 rfl) ?_
  refine FWl.val 44 rfl rfl (Value.pointer (some ⟨g54, 3, none⟩)) _ (r_fieldAddrS Try.underlying82 rfl Try.sizeOf3 rfl rfl rfl rfl) ?_
  refine FWl.val 45 rfl rfl (Value.int .i64 1) _ (r_loadP1 Try.isAgg3 hcg63_445 rfl rfl hH468) ?_
  refine FWl.val 46 rfl rfl (Value.bool true) _ (r_eql (a := 1) (b := 1) rfl rfl) ?_
  refine FWl.val 47 rfl rfl (Value.bool true) _ (r_pick (t := true) rfl) ?_
  refine FWl.val 48 rfl rfl (Value.bool true) _ (r_move) ?_
  refine FWl.val 49 rfl rfl (Value.pointer (some ⟨g54, 1, none⟩)) _ (r_fieldAddrS Try.underlying82 rfl Try.sizeOf3 rfl rfl rfl rfl) ?_
  refine FWl.val 50 rfl rfl (Value.int .i64 1) _ (r_loadP1 Try.isAgg3 hcg63_445 rfl rfl hH468) ?_
  refine FWl.call 51 rfl rfl 56 #[Value.int .i64 1] (r_call1 Try.call56 rfl rfl) (Ret.of Try.func56 rfl Try.ntmps56 rfl ?_)
  refine FW.seq_k fun K58 hK58 => ?_
  refine FW.region rfl ?_
  refine FWl.val 2 rfl rfl (Value.bool false) _ (r_assign) ?_
  refine FWl.nil (hK58 _ _ ?_)
  clear hK58 K58
  refine FW.seq_k fun K59 hK59 => ?_
  refine FW.region rfl ?_
  refine FWl.val 3 rfl rfl (Value.int .i64 1) _ (r_move) ?_
  refine FWl.val 4 rfl rfl (Value.bool true) _ (r_geq (a := 1) (b := 0) rfl rfl) ?_
  refine FWl.val 5 rfl rfl (Value.bool true) _ (r_move) ?_
  refine FWl.val 6 rfl rfl (Value.int .i64 1) _ (r_move) ?_
  refine FWl.val 7 rfl rfl (Value.bool true) _ (r_leq (a := 1) (b := 400) rfl rfl) ?_
  refine FWl.val 8 rfl rfl (Value.bool true) _ (r_pick (t := true) rfl) ?_
  refine FWl.val 2 rfl rfl (Value.bool true) _ (r_assign) ?_
  refine FWl.nil (hK59 _ _ ?_)
  clear hK59 K59
  refine FW.ret (?_)
  refine ret_tmp (v := Value.bool true) Try.results56 (.inl rfl) rfl ?_
  refine FWl.val 52 rfl rfl (Value.bool true) _ (r_pick (t := true) rfl) ?_
  refine FWl.val 53 rfl rfl (Value.bool true) _ (r_move) ?_
  refine FWl.val 54 rfl rfl (Value.pointer (some ⟨g54, 3, none⟩)) _ (r_fieldAddrS Try.underlying82 rfl Try.sizeOf3 rfl rfl rfl rfl) ?_
  refine FWl.val 55 rfl rfl (Value.int .i64 1) _ (r_loadP1 Try.isAgg3 hcg63_445 rfl rfl hH468) ?_
  refine FWl.call 56 rfl rfl 56 #[Value.int .i64 1] (r_call1 Try.call56 rfl rfl) (Ret.of Try.func56 rfl Try.ntmps56 rfl ?_)
  refine FW.seq_k fun K60 hK60 => ?_
  refine FW.region rfl ?_
  refine FWl.val 2 rfl rfl (Value.bool false) _ (r_assign) ?_
  refine FWl.nil (hK60 _ _ ?_)
  clear hK60 K60
  refine FW.seq_k fun K61 hK61 => ?_
  refine FW.region rfl ?_
  refine FWl.val 3 rfl rfl (Value.int .i64 1) _ (r_move) ?_
  refine FWl.val 4 rfl rfl (Value.bool true) _ (r_geq (a := 1) (b := 0) rfl rfl) ?_
  refine FWl.val 5 rfl rfl (Value.bool true) _ (r_move) ?_
  refine FWl.val 6 rfl rfl (Value.int .i64 1) _ (r_move) ?_
  refine FWl.val 7 rfl rfl (Value.bool true) _ (r_leq (a := 1) (b := 400) rfl rfl) ?_
  refine FWl.val 8 rfl rfl (Value.bool true) _ (r_pick (t := true) rfl) ?_
  refine FWl.val 2 rfl rfl (Value.bool true) _ (r_assign) ?_
  refine FWl.nil (hK61 _ _ ?_)
  clear hK61 K61
  refine FW.ret (?_)
  refine ret_tmp (v := Value.bool true) Try.results56 (.inl rfl) rfl ?_
  refine FWl.val 57 rfl rfl (Value.bool true) _ (r_pick (t := true) rfl) ?_
  refine FWl.val 2 rfl rfl (Value.bool true) _ (r_assign) ?_
  refine FWl.nil (hK31 _ _ ?_)
  clear hK31 K31
  refine FW.ret (?_)
  refine ret_tmp (v := Value.bool true) Try.results55 (.inl rfl) rfl ?_
  refine FWl.val 22 rfl rfl (Value.bool false) _ (r_not (b := true) rfl) ?_
  refine FWl.val 23 rfl rfl (Value.bool false) _ (r_move) ?_
  refine FWl.val 24 rfl rfl (Value.pointer (some ⟨g33, 0, none⟩)) _ (r_fieldAddrS Try.underlying82 rfl Try.sizeOf3 rfl rfl rfl rfl) ?_
  refine FWl.val 25 rfl rfl (Value.int .i64 1) _ (r_loadP1 Try.isAgg3 hcg47_444 rfl rfl hH468) ?_
  refine FWl.call 26 rfl rfl 56 #[Value.int .i64 1] (r_call1 Try.call56 rfl rfl) (Ret.of Try.func56 rfl Try.ntmps56 rfl ?_)
  refine FW.seq_k fun K62 hK62 => ?_
  refine FW.region rfl ?_
  refine FWl.val 2 rfl rfl (Value.bool false) _ (r_assign) ?_
  refine FWl.nil (hK62 _ _ ?_)
  clear hK62 K62
  refine FW.seq_k fun K63 hK63 => ?_
  refine FW.region rfl ?_
  refine FWl.val 3 rfl rfl (Value.int .i64 1) _ (r_move) ?_
  refine FWl.val 4 rfl rfl (Value.bool true) _ (r_geq (a := 1) (b := 0) rfl rfl) ?_
  refine FWl.val 5 rfl rfl (Value.bool true) _ (r_move) ?_
  refine FWl.val 6 rfl rfl (Value.int .i64 1) _ (r_move) ?_
  refine FWl.val 7 rfl rfl (Value.bool true) _ (r_leq (a := 1) (b := 400) rfl rfl) ?_
  refine FWl.val 8 rfl rfl (Value.bool true) _ (r_pick (t := true) rfl) ?_
  refine FWl.val 2 rfl rfl (Value.bool true) _ (r_assign) ?_
  refine FWl.nil (hK63 _ _ ?_)
  clear hK63 K63
  refine FW.ret (?_)
  refine ret_tmp (v := Value.bool true) Try.results56 (.inl rfl) rfl ?_
  refine FWl.val 27 rfl rfl (Value.bool false) _ (r_not (b := true) rfl) ?_
  refine FWl.val 28 rfl rfl (Value.bool false) _ (r_pick (t := false) rfl) ?_
  refine FWl.val 29 rfl rfl (Value.bool false) _ (r_move) ?_
  refine FWl.val 30 rfl rfl (Value.pointer (some ⟨g33, 2, none⟩)) _ (r_fieldAddrS Try.underlying82 rfl Try.sizeOf3 rfl rfl rfl rfl) ?_
  refine FWl.val 31 rfl rfl (Value.int .i64 1) _ (r_loadP1 Try.isAgg3 hcg47_444 rfl rfl hH468) ?_
  refine FWl.call 32 rfl rfl 56 #[Value.int .i64 1] (r_call1 Try.call56 rfl rfl) (Ret.of Try.func56 rfl Try.ntmps56 rfl ?_)
  refine FW.seq_k fun K64 hK64 => ?_
  refine FW.region rfl ?_
  refine FWl.val 2 rfl rfl (Value.bool false) _ (r_assign) ?_
  refine FWl.nil (hK64 _ _ ?_)
  clear hK64 K64
  refine FW.seq_k fun K65 hK65 => ?_
  refine FW.region rfl ?_
  refine FWl.val 3 rfl rfl (Value.int .i64 1) _ (r_move) ?_
  refine FWl.val 4 rfl rfl (Value.bool true) _ (r_geq (a := 1) (b := 0) rfl rfl) ?_
  refine FWl.val 5 rfl rfl (Value.bool true) _ (r_move) ?_
  refine FWl.val 6 rfl rfl (Value.int .i64 1) _ (r_move) ?_
  refine FWl.val 7 rfl rfl (Value.bool true) _ (r_leq (a := 1) (b := 400) rfl rfl) ?_
  refine FWl.val 8 rfl rfl (Value.bool true) _ (r_pick (t := true) rfl) ?_
  refine FWl.val 2 rfl rfl (Value.bool true) _ (r_assign) ?_
  refine FWl.nil (hK65 _ _ ?_)
  clear hK65 K65
  refine FW.ret (?_)
  refine ret_tmp (v := Value.bool true) Try.results56 (.inl rfl) rfl ?_
  refine FWl.val 33 rfl rfl (Value.bool false) _ (r_not (b := true) rfl) ?_
  refine FWl.val 34 rfl rfl (Value.bool false) _ (r_pick (t := false) rfl) ?_
  refine FWl.val 35 rfl rfl (Value.bool false) _ (r_move) ?_
  refine FWl.val 36 rfl rfl (Value.pointer (some ⟨g33, 0, none⟩)) _ (r_fieldAddrS Try.underlying82 rfl Try.sizeOf3 rfl rfl rfl rfl) ?_
  refine FWl.val 37 rfl rfl (Value.int .i64 1) _ (r_loadP1 Try.isAgg3 hcg47_444 rfl rfl hH468) ?_
  refine FWl.val 38 rfl rfl (Value.int .i64 0) _ (r_move) ?_
  refine FWl.val 39 rfl rfl (Value.bool false) _ (r_lss (a := 1) (b := 0) rfl rfl) ?_
  refine FWl.val 40 rfl rfl (Value.bool false) _ (r_pick (t := false) rfl) ?_
  refine FWl.val 41 rfl rfl (Value.bool false) _ (r_move) ?_
  refine FWl.val 42 rfl rfl (Value.pointer (some ⟨g33, 0, none⟩)) _ (r_fieldAddrS Try.underlying82 rfl Try.sizeOf3 rfl rfl rfl rfl) ?_
  refine FWl.val 43 rfl rfl (Value.int .i64 1) _ (r_loadP1 Try.isAgg3 hcg47_444 rfl rfl hH468) ?_
  refine FWl.val 44 rfl rfl (Value.int .i64 0) _ (r_move) ?_
  refine FWl.val 45 rfl rfl (Value.int .i64 1) _ (r_subE (a := 1) (b := 0) rfl rfl (by decide)) ?_
  refine FWl.val 46 rfl rfl (Value.pointer (some ⟨g33, 2, none⟩)) _ (r_fieldAddrS Try.underlying82 rfl Try.sizeOf3 rfl rfl rfl rfl) ?_
  refine FWl.val 47 rfl rfl (Value.int .i64 1) _ (r_loadP1 Try.isAgg3 hcg47_444 rfl rfl hH468) ?_
  refine FWl.val 48 rfl rfl (Value.int .i64 0) _ (r_move) ?_
  refine FWl.val 49 rfl rfl (Value.int .i64 1) _ (r_subE (a := 1) (b := 0) rfl rfl (by decide)) ?_
  refine FWl.val 50 rfl rfl (Value.bool false) _ (r_neq (a := 1) (b := 1) rfl rfl) ?_
  refine FWl.val 51 rfl rfl (Value.bool false) _ (r_pick (t := false) rfl) ?_
  refine FWl.nil (hK27 _ _ ?_)
  clear hK27 K27
  refine FW.cond false rfl (fun h => nomatch h) (fun _ => ?_)
  refine FW.skip (hK26 _ _ ?_)
  clear hK26 K26
  refine FW.regionDraw mixed (SS C437 (fun _ => True) w436.drew) [] [(0, true), (1, true), (2, true), (3, true), (4, true), (5, true), (6, true), (7, true), (8, true), (9, true), (10, false), (11, false)] rfl (by kernel_rfl) ?_
  have e470 : Ext w436.heap.size w436 C437 w436.drew C437 := (Ext.refl hH468).drew
  generalize w436.drew = w469 at *
  have hE_471 := hE_439.step e470
  have hH472 := e470.has
  have hS473 : SS C437 (fun _ => True) w469 w469 := SS.refl hH472
  have hle474 := Gle.refl C437
  refine FWs.take rfl 52 rfl rfl (Value.pointer (some ⟨g33, 0, none⟩)) hS473 (fun _ _ => r_fieldAddrS Try.underlying82 rfl Try.sizeOf3 rfl rfl rfl rfl) ?_
  refine FWs.take rfl 53 rfl rfl (Value.int .i64 1) hS473 (fun _ hS' => r_loadP1 Try.isAgg3 hcg47_444 rfl rfl hS'.has) ?_
  refine FWs.take rfl 54 rfl rfl (Value.pointer (some ⟨g33, 1, none⟩)) hS473 (fun _ _ => r_fieldAddrS Try.underlying82 rfl Try.sizeOf3 rfl rfl rfl rfl) ?_
  refine FWs.take rfl 55 rfl rfl (Value.int .i64 1) hS473 (fun _ hS' => r_loadP1 Try.isAgg3 hcg47_444 rfl rfl hS'.has) ?_
  refine FWs.take rfl 56 rfl rfl (Value.int .i64 2) hS473 (fun _ _ => r_addE (a := 1) (b := 1) rfl rfl (by decide)) ?_
  refine FWs.take rfl 57 rfl rfl (Value.pointer (some ⟨g33, 2, none⟩)) hS473 (fun _ _ => r_fieldAddrS Try.underlying82 rfl Try.sizeOf3 rfl rfl rfl rfl) ?_
  refine FWs.take rfl 58 rfl rfl (Value.int .i64 1) hS473 (fun _ hS' => r_loadP1 Try.isAgg3 hcg47_444 rfl rfl hS'.has) ?_
  refine FWs.take rfl 59 rfl rfl (Value.pointer (some ⟨g33, 3, none⟩)) hS473 (fun _ _ => r_fieldAddrS Try.underlying82 rfl Try.sizeOf3 rfl rfl rfl rfl) ?_
  refine FWs.take rfl 60 rfl rfl (Value.int .i64 1) hS473 (fun _ hS' => r_loadP1 Try.isAgg3 hcg47_444 rfl rfl hS'.has) ?_
  refine FWs.take rfl 61 rfl rfl (Value.int .i64 2) hS473 (fun _ _ => r_addE (a := 1) (b := 1) rfl rfl (by decide)) ?_
  refine FWs.val rfl 3 rfl rfl (Value.int .i64 2) _ (r_assign) (.inr hS473) ?_
  refine FWs.val rfl 4 rfl rfl (Value.int .i64 2) _ (r_assign) (.inr hS473) ?_
  refine FWs.nil (hK24 _ _ ?_)
  clear hK24 K24
  refine FW.region rfl ?_
  refine FWl.val 62 rfl rfl (Value.int .i64 1) _ (r_addE (a := 0) (b := 1) rfl rfl (by decide)) ?_
  refine FWl.val 16 rfl rfl (Value.int .i64 1) _ (r_move) ?_
  refine FWl.nil (thenF_round ?_)
  refine FW.seq_k fun K66 hK66 => ?_
  refine FW.region rfl ?_
  refine FWl.val 17 rfl rfl (Value.bool false) _ (r_lss (a := 1) (b := 1) rfl rfl) ?_
  refine FWl.nil (hK66 _ _ ?_)
  clear hK66 K66
  refine FW.seq_k fun K67 hK67 => ?_
  refine FW.cond false rfl (fun h => nomatch h) (fun _ => ?_)
  refine FW.exit (thenF_exit (thenF_exit (inBlockF_hit (hK20 _ _ ?_))))
  clear hK20 K20 hK67 K67
  refine FW.seq_k fun K68 hK68 => ?_
  refine FW.region rfl ?_
  refine FWl.val 2 rfl rfl (Value.int .i64 0) _ (r_assign) ?_
  refine FWl.nil (hK68 _ _ ?_)
  clear hK68 K68
  refine FW.ret (?_)
  refine ret_tmp (v := Value.int .i64 0) Try.results31 (.inl rfl) rfl ?_
  exact ⟨C437, rfl, hE_471⟩

theorem Decimal_1  {w : World} {C : Gh} (hH : Has w C) : Ret Try.prog 59 #[Value.int .i64 1] w fun v w' => ∃ (C' : Gh), v = Value.string (⟨#[49]⟩ : ByteArray) ∧ Ext w.heap.size w C w' C' := by
  refine Ret.of Try.func59 rfl Try.ntmps59 rfl ?_
  have hE := Ext.refl (B := w.heap.size) hH
  refine FW.seq_k fun K1 hK1 => ?_
  refine FW.region rfl ?_
  refine FWl.val 2 rfl rfl (Value.string ({ data := #[] })) _ (r_assign) ?_
  refine FWl.nil (hK1 _ _ ?_)
  clear hK1 K1
  refine FW.seq_k fun K2 hK2 => ?_
  refine FW.seq_k fun K3 hK3 => ?_
  refine FW.region rfl ?_
  refine FWl.val 5 rfl rfl (Value.int .i64 1) _ (r_move) ?_
  refine FWl.val 6 rfl rfl (Value.bool false) _ (r_lss (a := 1) (b := 0) rfl rfl) ?_
  refine FWl.val 7 rfl rfl (Value.bool false) _ (r_move) ?_
  refine FWl.val 8 rfl rfl (Value.int .i64 1) _ (r_move) ?_
  refine FWl.val 9 rfl rfl (Value.bool false) _ (r_gtr (a := 1) (b := 2147483647) rfl rfl) ?_
  refine FWl.val 10 rfl rfl (Value.bool false) _ (r_pick (t := false) rfl) ?_
  refine FWl.nil (hK3 _ _ ?_)
  clear hK3 K3
  refine FW.cond false rfl (fun h => nomatch h) (fun _ => ?_)
  refine FW.skip (hK2 _ _ ?_)
  clear hK2 K2
  refine FW.seq_k fun K4 hK4 => ?_
  refine FW.region rfl ?_
  refine FWl.alloc (cs := [Value.int .u8 0, Value.int .u8 0, Value.int .u8 0, Value.int .u8 0, Value.int .u8 0, Value.int .u8 0, Value.int .u8 0, Value.int .u8 0, Value.int .u8 0, Value.int .u8 0]) rfl rfl rfl Try.zeroValue122 rfl hH ?_
  intro g1 w2 st3 e4 hg5
  have hge_st3_hE := Nat.le_trans hE.size (Nat.le_of_eq hg5)
  have hE_6 := hE.step e4
  have hH7 := e4.has
  have hlt_st3 := st3.lt
  refine FWl.nil (hK4 _ _ ?_)
  clear hK4 K4
  refine FW.seq_k fun K5 hK5 => ?_
  refine FW.region rfl ?_
  refine FWl.val 4 rfl rfl (Value.int .i64 10) _ (r_assign) ?_
  refine FWl.nil (hK5 _ _ ?_)
  clear hK5 K5
  refine FW.block ?_
  refine FW.loop_in (FWL.unroll ?_)
  refine FW.block ?_
  refine FW.seq_k fun K6 hK6 => ?_
  refine FW.region rfl ?_
  refine FWl.val 11 rfl rfl (Value.int .i64 10) _ (r_move) ?_
  refine FWl.val 12 rfl rfl (Value.int .i64 9) _ (r_subE (a := 10) (b := 1) rfl rfl (by decide)) ?_
  refine FWl.val 4 rfl rfl (Value.int .i64 9) _ (r_assign) ?_
  refine FWl.nil (hK6 _ _ ?_)
  clear hK6 K6
  refine FW.seq_k fun K7 hK7 => ?_
  refine FW.region rfl ?_
  refine FWl.val 13 rfl rfl (Value.int .i64 9) _ (r_move) ?_
  refine FWl.val 14 rfl rfl (Value.int .i64 1) _ (r_move) ?_
  refine FWl.val 15 rfl rfl (Value.int .i64 1) _ (r_remE (a := 1) (b := 10) rfl rfl (by decide) (by decide)) ?_
  refine FWl.val 16 rfl rfl (Value.int .i64 49) _ (r_addE (a := 48) (b := 1) rfl rfl (by decide)) ?_
  refine FWl.val 17 rfl rfl (Value.int .u8 49) _ (r_convI Try.runUnderlying3 Try.runUnderlying5 rfl (by first | rfl | (simp only [IntKind.wrap_u64, IntKind.wrap_i64]; omega))) ?_
  refine FWl.val 18 rfl rfl (Value.pointer (some ⟨g1, 9, none⟩)) _ (r_indexArrS Try.underlying122 Try.sizeOf5 rfl rfl (by omega) (by omega) rfl) ?_
  refine FWl.store (vs := [Value.int .u8 49]) (cs' := [Value.int .u8 0, Value.int .u8 0, Value.int .u8 0, Value.int .u8 0, Value.int .u8 0, Value.int .u8 0, Value.int .u8 0, Value.int .u8 0, Value.int .u8 0, Value.int .u8 49]) rfl rfl rfl Try.sizeOf5 rfl st3 hH7 rfl rfl rfl rfl rfl rfl ?_
  intro w8 m9 st3_10
  have hE_11 := hE_6.trans (m9.ext hE_6.size (by omega))
  refine FWl.nil (hK7 _ _ ?_)
  clear hK7 K7
  refine FW.seq_k fun K8 hK8 => ?_
  refine FW.region rfl ?_
  refine FWl.val 19 rfl rfl (Value.int .i64 1) _ (r_move) ?_
  refine FWl.val 20 rfl rfl (Value.int .i64 0) _ (r_quoE (a := 1) (b := 10) rfl rfl (by decide) (by decide)) ?_
  refine FWl.val 0 rfl rfl (Value.int .i64 0) _ (r_assign) ?_
  refine FWl.nil (hK8 _ _ ?_)
  clear hK8 K8
  refine FW.seq_k fun K9 hK9 => ?_
  refine FW.region rfl ?_
  refine FWl.val 21 rfl rfl (Value.int .i64 0) _ (r_move) ?_
  refine FWl.val 22 rfl rfl (Value.bool true) _ (r_eql (a := 0) (b := 0) rfl rfl) ?_
  refine FWl.nil (hK9 _ _ ?_)
  clear hK9 K9
  refine FW.cond true rfl (fun _ => ?_) (fun h => nomatch h)
  refine FW.seq_k fun K10 hK10 => ?_
  refine FW.region rfl ?_
  refine FWl.val 23 rfl rfl (Value.int .i64 9) _ (r_move) ?_
  refine FWl.val 24 rfl rfl (Value.slice (some ⟨g1, 9, none⟩) 1 1) _ (r_sliceArrL (l := 9) Try.underlying122 Try.sizeOf5 rfl rfl (by decide) (by decide)) ?_
  refine FWl.val 25 rfl rfl (Value.string (⟨#[49]⟩ : ByteArray)) _ (r_bytesStrSt (o := 9) (l := [49]) (r := (⟨#[49]⟩ : ByteArray)) Try.underlying47 Try.underlying5 Try.underlying9 (fun j hj => by
      match j, hj with
      | 0, _ => exact st3_10.cell rfl) rfl rfl) ?_
  refine FWl.val 2 rfl rfl (Value.string (⟨#[49]⟩ : ByteArray)) _ (r_assign) ?_
  refine FWl.nil (hK10 _ _ ?_)
  clear hK10 K10
  refine FW.ret (inBlockF_ret (thenF_ret (inBlockF_ret (?_))))
  refine ret_tmp (v := Value.string (⟨#[49]⟩ : ByteArray)) Try.results59 (.inl rfl) rfl ?_
  exact ⟨C, rfl, hE_11⟩

theorem Decimal_2  {w : World} {C : Gh} (hH : Has w C) : Ret Try.prog 59 #[Value.int .i64 2] w fun v w' => ∃ (C' : Gh), v = Value.string (⟨#[50]⟩ : ByteArray) ∧ Ext w.heap.size w C w' C' := by
  refine Ret.of Try.func59 rfl Try.ntmps59 rfl ?_
  have hE := Ext.refl (B := w.heap.size) hH
  refine FW.seq_k fun K1 hK1 => ?_
  refine FW.region rfl ?_
  refine FWl.val 2 rfl rfl (Value.string ({ data := #[] })) _ (r_assign) ?_
  refine FWl.nil (hK1 _ _ ?_)
  clear hK1 K1
  refine FW.seq_k fun K2 hK2 => ?_
  refine FW.seq_k fun K3 hK3 => ?_
  refine FW.region rfl ?_
  refine FWl.val 5 rfl rfl (Value.int .i64 2) _ (r_move) ?_
  refine FWl.val 6 rfl rfl (Value.bool false) _ (r_lss (a := 2) (b := 0) rfl rfl) ?_
  refine FWl.val 7 rfl rfl (Value.bool false) _ (r_move) ?_
  refine FWl.val 8 rfl rfl (Value.int .i64 2) _ (r_move) ?_
  refine FWl.val 9 rfl rfl (Value.bool false) _ (r_gtr (a := 2) (b := 2147483647) rfl rfl) ?_
  refine FWl.val 10 rfl rfl (Value.bool false) _ (r_pick (t := false) rfl) ?_
  refine FWl.nil (hK3 _ _ ?_)
  clear hK3 K3
  refine FW.cond false rfl (fun h => nomatch h) (fun _ => ?_)
  refine FW.skip (hK2 _ _ ?_)
  clear hK2 K2
  refine FW.seq_k fun K4 hK4 => ?_
  refine FW.region rfl ?_
  refine FWl.alloc (cs := [Value.int .u8 0, Value.int .u8 0, Value.int .u8 0, Value.int .u8 0, Value.int .u8 0, Value.int .u8 0, Value.int .u8 0, Value.int .u8 0, Value.int .u8 0, Value.int .u8 0]) rfl rfl rfl Try.zeroValue122 rfl hH ?_
  intro g1 w2 st3 e4 hg5
  have hge_st3_hE := Nat.le_trans hE.size (Nat.le_of_eq hg5)
  have hE_6 := hE.step e4
  have hH7 := e4.has
  have hlt_st3 := st3.lt
  refine FWl.nil (hK4 _ _ ?_)
  clear hK4 K4
  refine FW.seq_k fun K5 hK5 => ?_
  refine FW.region rfl ?_
  refine FWl.val 4 rfl rfl (Value.int .i64 10) _ (r_assign) ?_
  refine FWl.nil (hK5 _ _ ?_)
  clear hK5 K5
  refine FW.block ?_
  refine FW.loop_in (FWL.unroll ?_)
  refine FW.block ?_
  refine FW.seq_k fun K6 hK6 => ?_
  refine FW.region rfl ?_
  refine FWl.val 11 rfl rfl (Value.int .i64 10) _ (r_move) ?_
  refine FWl.val 12 rfl rfl (Value.int .i64 9) _ (r_subE (a := 10) (b := 1) rfl rfl (by decide)) ?_
  refine FWl.val 4 rfl rfl (Value.int .i64 9) _ (r_assign) ?_
  refine FWl.nil (hK6 _ _ ?_)
  clear hK6 K6
  refine FW.seq_k fun K7 hK7 => ?_
  refine FW.region rfl ?_
  refine FWl.val 13 rfl rfl (Value.int .i64 9) _ (r_move) ?_
  refine FWl.val 14 rfl rfl (Value.int .i64 2) _ (r_move) ?_
  refine FWl.val 15 rfl rfl (Value.int .i64 2) _ (r_remE (a := 2) (b := 10) rfl rfl (by decide) (by decide)) ?_
  refine FWl.val 16 rfl rfl (Value.int .i64 50) _ (r_addE (a := 48) (b := 2) rfl rfl (by decide)) ?_
  refine FWl.val 17 rfl rfl (Value.int .u8 50) _ (r_convI Try.runUnderlying3 Try.runUnderlying5 rfl (by first | rfl | (simp only [IntKind.wrap_u64, IntKind.wrap_i64]; omega))) ?_
  refine FWl.val 18 rfl rfl (Value.pointer (some ⟨g1, 9, none⟩)) _ (r_indexArrS Try.underlying122 Try.sizeOf5 rfl rfl (by omega) (by omega) rfl) ?_
  refine FWl.store (vs := [Value.int .u8 50]) (cs' := [Value.int .u8 0, Value.int .u8 0, Value.int .u8 0, Value.int .u8 0, Value.int .u8 0, Value.int .u8 0, Value.int .u8 0, Value.int .u8 0, Value.int .u8 0, Value.int .u8 50]) rfl rfl rfl Try.sizeOf5 rfl st3 hH7 rfl rfl rfl rfl rfl rfl ?_
  intro w8 m9 st3_10
  have hE_11 := hE_6.trans (m9.ext hE_6.size (by omega))
  refine FWl.nil (hK7 _ _ ?_)
  clear hK7 K7
  refine FW.seq_k fun K8 hK8 => ?_
  refine FW.region rfl ?_
  refine FWl.val 19 rfl rfl (Value.int .i64 2) _ (r_move) ?_
  refine FWl.val 20 rfl rfl (Value.int .i64 0) _ (r_quoE (a := 2) (b := 10) rfl rfl (by decide) (by decide)) ?_
  refine FWl.val 0 rfl rfl (Value.int .i64 0) _ (r_assign) ?_
  refine FWl.nil (hK8 _ _ ?_)
  clear hK8 K8
  refine FW.seq_k fun K9 hK9 => ?_
  refine FW.region rfl ?_
  refine FWl.val 21 rfl rfl (Value.int .i64 0) _ (r_move) ?_
  refine FWl.val 22 rfl rfl (Value.bool true) _ (r_eql (a := 0) (b := 0) rfl rfl) ?_
  refine FWl.nil (hK9 _ _ ?_)
  clear hK9 K9
  refine FW.cond true rfl (fun _ => ?_) (fun h => nomatch h)
  refine FW.seq_k fun K10 hK10 => ?_
  refine FW.region rfl ?_
  refine FWl.val 23 rfl rfl (Value.int .i64 9) _ (r_move) ?_
  refine FWl.val 24 rfl rfl (Value.slice (some ⟨g1, 9, none⟩) 1 1) _ (r_sliceArrL (l := 9) Try.underlying122 Try.sizeOf5 rfl rfl (by decide) (by decide)) ?_
  refine FWl.val 25 rfl rfl (Value.string (⟨#[50]⟩ : ByteArray)) _ (r_bytesStrSt (o := 9) (l := [50]) (r := (⟨#[50]⟩ : ByteArray)) Try.underlying47 Try.underlying5 Try.underlying9 (fun j hj => by
      match j, hj with
      | 0, _ => exact st3_10.cell rfl) rfl rfl) ?_
  refine FWl.val 2 rfl rfl (Value.string (⟨#[50]⟩ : ByteArray)) _ (r_assign) ?_
  refine FWl.nil (hK10 _ _ ?_)
  clear hK10 K10
  refine FW.ret (inBlockF_ret (thenF_ret (inBlockF_ret (?_))))
  refine ret_tmp (v := Value.string (⟨#[50]⟩ : ByteArray)) Try.results59 (.inl rfl) rfl ?_
  exact ⟨C, rfl, hE_11⟩

theorem span_1  {w : World} {C : Gh} (hH : Has w C) : Ret Try.prog 34 #[Value.int .i64 1, Value.int .i64 1] w fun v w' => ∃ (C' : Gh), v = Value.string (⟨#[50, 44, 49]⟩ : ByteArray) ∧ Ext w.heap.size w C w' C' := by
  refine Ret.of Try.func34 rfl Try.ntmps34 rfl ?_
  have hE := Ext.refl (B := w.heap.size) hH
  refine FW.seq_k fun K1 hK1 => ?_
  refine FW.region rfl ?_
  refine FWl.val 4 rfl rfl (Value.string ({ data := #[] })) _ (r_assign) ?_
  refine FWl.nil (hK1 _ _ ?_)
  clear hK1 K1
  refine FW.seq_k fun K2 hK2 => ?_
  refine FW.seq_k fun K3 hK3 => ?_
  refine FW.region rfl ?_
  refine FWl.val 5 rfl rfl (Value.int .i64 1) _ (r_move) ?_
  refine FWl.val 6 rfl rfl (Value.bool true) _ (r_gtr (a := 1) (b := 0) rfl rfl) ?_
  refine FWl.nil (hK3 _ _ ?_)
  clear hK3 K3
  refine FW.cond true rfl (fun _ => ?_) (fun h => nomatch h)
  refine FW.region rfl ?_
  refine FWl.val 7 rfl rfl (Value.int .i64 1) _ (r_move) ?_
  refine FWl.val 8 rfl rfl (Value.int .i64 2) _ (r_addE (a := 1) (b := 1) rfl rfl (by decide)) ?_
  refine FWl.val 0 rfl rfl (Value.int .i64 2) _ (r_assign) ?_
  refine FWl.nil (hK2 _ _ ?_)
  clear hK2 K2
  refine FW.seq_k fun K4 hK4 => ?_
  refine FW.region rfl ?_
  refine FWl.val 9 rfl rfl (Value.int .i64 2) _ (r_move) ?_
  refine FWl.call 10 rfl rfl 59 #[Value.int .i64 2] (r_call1 Try.call59 rfl rfl) ((Decimal_2 hH).mono ?_)
  rintro _ w1 ⟨C2, rfl, e3⟩
  have hE_4 := hE.step e3
  have hH5 := e3.has
  refine FWl.val 11 rfl rfl (Value.string (⟨#[50, 44]⟩ : ByteArray)) _ (r_concatE (s := (⟨#[50]⟩ : ByteArray)) (s' := ({ data := #[44] })) rfl rfl (by decide) (by kernel_rfl)) ?_
  refine FWl.val 12 rfl rfl (Value.int .i64 1) _ (r_move) ?_
  refine FWl.call 13 rfl rfl 59 #[Value.int .i64 1] (r_call1 Try.call59 rfl rfl) ((Decimal_1 hH5).mono ?_)
  rintro _ w6 ⟨C7, rfl, e8⟩
  have hE_9 := hE_4.step e8
  refine FWl.val 14 rfl rfl (Value.string (⟨#[50, 44, 49]⟩ : ByteArray)) _ (r_concatE (s := (⟨#[50, 44]⟩ : ByteArray)) (s' := (⟨#[49]⟩ : ByteArray)) rfl rfl (by decide) (by kernel_rfl)) ?_
  refine FWl.val 4 rfl rfl (Value.string (⟨#[50, 44, 49]⟩ : ByteArray)) _ (r_assign) ?_
  refine FWl.nil (hK4 _ _ ?_)
  clear hK4 K4
  refine FW.ret (?_)
  refine ret_tmp (v := Value.string (⟨#[50, 44, 49]⟩ : ByteArray)) Try.results34 (.inl rfl) rfl ?_
  exact ⟨C7, rfl, hE_9⟩

end Go.Proofs.Ytlofomkhiefbmaa
