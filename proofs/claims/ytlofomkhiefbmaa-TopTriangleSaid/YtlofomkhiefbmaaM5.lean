/- Walks. -/
import Derived.Test.YtlofomkhiefbmaaJH
import Derived.Test.YtlofomkhiefbmaaJT
import Derived.Test.YtlofomkhiefbmaaJK
import Derived.Test.YtlofomkhiefbmaaM1
set_option maxRecDepth 10000
set_option linter.unusedVariables false
set_option linter.unusedSimpArgs false
namespace Go.Proofs.Ytlofomkhiefbmaa
open Go.RowKit
theorem slot_p {A1 A2 A3 : Option Addr} {c1 c2 c3 gf : Nat} {a b : List Int} {rows : List (List Int)} {w : World} {C : Gh} (hH : Has w C) (hcg : CellsG C (some ⟨gf, 0, none⟩) 0 [.slice A1 a.length c1, .slice A2 b.length c2, .slice A3 rows.length c3]) (hsa : Sl (kInt .i64) C A1 c1 a) (hsb : Sl (kInt .i64) C A2 c2 b) (hsr : Sl (kSl (kInt .i64)) C A3 c3 rows) {k : Int} (h1 : -9000000 ≤ k) (h2 : k ≤ 9000000) : Ret Try.prog 46 #[.pointer (some ⟨gf, 0, none⟩), .int .i64 k] w fun v w' => v = .int .i64 (k + b.length + 1) ∧ Ext w.heap.size w C w' C := by
  refine Ret.of Try.func46 rfl Try.ntmps46 rfl ?_
  have hE := Ext.refl (B := w.heap.size) hH; have hal := hsa.bd; have hbl := hsb.bd; have hrl := hsr.bd
  refine FW.seq_k fun K1 hK1 => ?_
  refine FW.region rfl ?_
  refine FWl.val 4 rfl rfl (Value.int .i64 0) _ (r_assign) ?_
  refine FWl.nil (hK1 _ _ ?_)
  clear hK1 K1
  refine FW.seq_k fun K2 hK2 => ?_
  refine FW.region rfl ?_
  refine FWl.val 5 rfl rfl (Value.int .i64 k) _ (r_move) ?_
  refine FWl.val 6 rfl rfl (Value.pointer (some ⟨gf, 0, none⟩)) _ (r_move) ?_
  refine FWl.val 7 rfl rfl (Value.pointer (some ⟨gf, 0, none⟩)) _ (r_nilCheck rfl) ?_
  refine FWl.val 8 rfl rfl (Value.pointer (some ⟨gf, 1, none⟩)) _ (r_fieldAddrS Try.underlying100 rfl Try.sizeOf39 rfl rfl rfl rfl) ?_
  refine FWl.val 9 rfl rfl (Value.slice A2 b.length c2) _ (r_loadP1 Try.isAgg39 hcg rfl rfl hH) ?_
  refine FWl.val 10 rfl rfl (Value.int .i64 ((b.length : Nat) : Int)) _ (r_lenSl Try.underlying39 rfl) ?_
  refine FWl.val 11 rfl rfl (Value.int .i64 (k + ((b.length : Nat) : Int))) _ (r_addI rfl rfl (by omega) (by omega)) ?_
  refine FWl.val 12 rfl rfl (Value.int .i64 ((k + ((b.length : Nat) : Int)) + 1)) _ (r_addI rfl rfl (by omega) (by omega)) ?_
  refine FWl.val 4 rfl rfl (Value.int .i64 ((k + ((b.length : Nat) : Int)) + 1)) _ (r_assign) ?_
  refine FWl.nil (hK2 _ _ ?_)
  clear hK2 K2
  refine FW.ret (?_)
  refine ret_tmp (v := Value.int .i64 ((k + ((b.length : Nat) : Int)) + 1)) Try.results46 (.inl rfl) rfl ?_
  exact ⟨rfl, hE⟩

theorem steps_p {A1 A2 A3 : Option Addr} {c1 c2 c3 gf : Nat} {a b : List Int} {rows : List (List Int)} {w : World} {C : Gh} (hH : Has w C) (hcg : CellsG C (some ⟨gf, 0, none⟩) 0 [.slice A1 a.length c1, .slice A2 b.length c2, .slice A3 rows.length c3]) (hsa : Sl (kInt .i64) C A1 c1 a) (hsb : Sl (kInt .i64) C A2 c2 b) (hsr : Sl (kSl (kInt .i64)) C A3 c3 rows) : Ret Try.prog 48 #[.pointer (some ⟨gf, 0, none⟩)] w fun v w' => v = .int .i64 (rows.length - 1) ∧ Ext w.heap.size w C w' C := by
  refine Ret.of Try.func48 rfl Try.ntmps48 rfl ?_
  have hE := Ext.refl (B := w.heap.size) hH; have hal := hsa.bd; have hbl := hsb.bd; have hrl := hsr.bd
  refine FW.seq_k fun K1 hK1 => ?_
  refine FW.region rfl ?_
  refine FWl.val 2 rfl rfl (Value.int .i64 0) _ (r_assign) ?_
  refine FWl.nil (hK1 _ _ ?_)
  clear hK1 K1
  refine FW.seq_k fun K2 hK2 => ?_
  refine FW.region rfl ?_
  refine FWl.val 3 rfl rfl (Value.pointer (some ⟨gf, 0, none⟩)) _ (r_move) ?_
  refine FWl.val 4 rfl rfl (Value.pointer (some ⟨gf, 0, none⟩)) _ (r_nilCheck rfl) ?_
  refine FWl.val 5 rfl rfl (Value.pointer (some ⟨gf, 2, none⟩)) _ (r_fieldAddrS Try.underlying100 rfl Try.sizeOf34 rfl rfl rfl rfl) ?_
  refine FWl.val 6 rfl rfl (Value.slice A3 rows.length c3) _ (r_loadP1 Try.isAgg34 hcg rfl rfl hH) ?_
  refine FWl.val 7 rfl rfl (Value.int .i64 ((rows.length : Nat) : Int)) _ (r_lenSl Try.underlying34 rfl) ?_
  refine FWl.val 8 rfl rfl (Value.int .i64 (((rows.length : Nat) : Int) - 1)) _ (r_subI rfl rfl (by omega) (by omega)) ?_
  refine FWl.val 2 rfl rfl (Value.int .i64 (((rows.length : Nat) : Int) - 1)) _ (r_assign) ?_
  refine FWl.nil (hK2 _ _ ?_)
  clear hK2 K2
  refine FW.ret (?_)
  refine ret_tmp (v := Value.int .i64 (((rows.length : Nat) : Int) - 1)) Try.results48 (.inl rfl) rfl ?_
  exact ⟨rfl, hE⟩

theorem within_p {A1 A2 A3 : Option Addr} {c1 c2 c3 gf : Nat} {a b : List Int} {rows : List (List Int)} {w : World} {C : Gh} (hH : Has w C) (hcg : CellsG C (some ⟨gf, 0, none⟩) 0 [.slice A1 a.length c1, .slice A2 b.length c2, .slice A3 rows.length c3]) (hsa : Sl (kInt .i64) C A1 c1 a) (hsb : Sl (kInt .i64) C A2 c2 b) (hsr : Sl (kSl (kInt .i64)) C A3 c3 rows) {i j q : Int} (hall : ∀ r ∈ rows, r.length = a.length + b.length + 3) (hq : q < rows.length) (h1 : i - j ≤ a.length + 1) (h2 : -1 - (b.length : Int) ≤ i - j) (h3 : a.length ≤ 400) (h4 : b.length ≤ 400) (h5 : -100000 ≤ i ∧ i ≤ 100000 ∧ -100000 ≤ j ∧ j ≤ 100000) : Ret Try.prog 49 #[.pointer (some ⟨gf, 0, none⟩), .int .i64 i, .int .i64 j, .int .i64 q] w fun v w' => v = .bool (withinS b rows i j q) ∧ Ext w.heap.size w C w' C := by
  refine Ret.of Try.func49 rfl Try.ntmps49 rfl ?_
  have hE := Ext.refl (B := w.heap.size) hH; have hal := hsa.bd; have hbl := hsb.bd; have hrl := hsr.bd
  refine FW.seq_k fun K1 hK1 => ?_
  refine FW.region rfl ?_
  refine FWl.val 8 rfl rfl (Value.bool false) _ (r_assign) ?_
  refine FWl.nil (hK1 _ _ ?_)
  clear hK1 K1
  refine FW.seq_k fun K2 hK2 => ?_
  refine FW.regionDraw mixed (SS C (fun _ => True) w.drew) [] [(0, false), (1, false), (2, false), (3, true), (4, true), (5, true), (6, true), (7, true), (8, true), (9, true), (10, true), (11, true), (12, true), (13, false), (14, false), (15, false), (16, false), (17, false), (18, false), (19, false), (20, false)] rfl (by kernel_rfl) ?_
  have e2 : Ext w.heap.size w C w.drew C := (Ext.refl hH).drew
  generalize w.drew = w1 at *
  have hE_3 := hE.step e2
  have hH4 := e2.has
  have hS5 : SS C (fun _ => True) w1 w1 := SS.refl hH4
  have hle6 := Gle.refl C
  refine FWs.val rfl 9 rfl rfl (Value.int .i64 q) _ (r_move) (.inr hS5) ?_
  refine FWs.val rfl 10 rfl rfl (Value.bool (decide (0 ≤ q))) _ (r_geq rfl rfl) (.inr hS5) ?_
  refine FWs.val rfl 11 rfl rfl (Value.bool (decide (0 ≤ q))) _ (r_move) (.inr hS5) ?_
  cases hb7 : (decide (0 ≤ q)) with
  | true =>
    have hp8 : 0 ≤ q := of_decide_eq_true hb7
    refine FWs.take rfl 12 rfl rfl (Value.int .i64 i) hS5 (fun _ _ => r_move) ?_
    refine FWs.take rfl 13 rfl rfl (Value.pointer (some ⟨gf, 0, none⟩)) hS5 (fun _ _ => r_move) ?_
    refine FWs.take rfl 14 rfl rfl (Value.pointer (some ⟨gf, 0, none⟩)) hS5 (fun _ _ => r_nilCheck rfl) ?_
    refine FWs.take rfl 15 rfl rfl (Value.pointer (some ⟨gf, 2, none⟩)) hS5 (fun _ _ => r_fieldAddrS Try.underlying100 rfl Try.sizeOf34 rfl rfl rfl rfl) ?_
    refine FWs.take rfl 16 rfl rfl (Value.slice A3 rows.length c3) hS5 (fun _ hS' => r_loadP1 Try.isAgg34 hcg rfl rfl hS'.has) ?_
    refine FWs.take rfl 17 rfl rfl (Value.int .i64 q) hS5 (fun _ _ => r_move) ?_
    obtain ⟨x9, hx10⟩ := get_some (xs := rows) (j := (q).toNat) (by omega)
    obtain ⟨cs11, hr12, hg13⟩ := hsr.at_ _ _ hx10
    obtain ⟨A14, c15, rfl, hs16⟩ := hr12
    have hxl := hall _ (List.mem_of_getElem? hx10)
    refine FWs.take rfl 18 rfl rfl (ptrAt A3 ((q).toNat * 1)) hS5 (fun _ _ => r_indexAddr Try.underlying34 Try.sizeOf39 rfl rfl (hsr.isSome (by omega)) (by omega) (by omega)) ?_
    refine FWs.take rfl 19 rfl rfl (Value.slice A14 x9.length c15) hS5 (fun _ hS' => r_loadG1 (i := 0) Try.isAgg39 hg13 rfl rfl hS'.has) ?_
    refine FWs.take rfl 20 rfl rfl (Value.pointer (some ⟨gf, 0, none⟩)) hS5 (fun _ _ => r_move) ?_
    refine FWs.take rfl 21 rfl rfl (Value.int .i64 i) hS5 (fun _ _ => r_move) ?_
    refine FWs.val rfl 22 rfl rfl (Value.int .i64 j) _ (r_move) (.inr hS5) ?_
    refine FWs.val rfl 23 rfl rfl (Value.int .i64 (i - j)) _ (r_subI rfl rfl (by omega) (by omega)) (.inr hS5) ?_
    refine FWs.call rfl 24 rfl rfl 46 #[Value.pointer (some ⟨gf, 0, none⟩), Value.int .i64 (i - j)] (r_call2 Try.call46 rfl rfl rfl) ((slot_p hH4 hcg hsa hsb hsr (k := i - j) (by omega) (by omega)).mono ?_)
    rintro _ w17 ⟨rfl, e18⟩
    have hE_19 := hE_3.step e18
    have hH20 := e18.has
    have hS21 := hS5.step e18
    refine ⟨(.inr hS21), ?_⟩
    obtain ⟨x22, hx23⟩ := get_some (xs := x9) (j := ((i - j) + ((b.length : Nat) : Int) + 1).toNat) (by omega)
    obtain ⟨cs24, hr25, hg26⟩ := hs16.at_ _ _ hx23
    obtain rfl := hr25
    refine FWs.val rfl 25 rfl rfl (ptrAt A14 (((i - j) + ((b.length : Nat) : Int) + 1).toNat * 1)) _ (r_indexAddr Try.underlying39 Try.sizeOf3 rfl rfl (hs16.isSome (by omega)) (by omega) (by omega)) (.inr hS21) ?_
    refine FWs.val rfl 26 rfl rfl (Value.int .i64 x22) _ (r_loadG1 (i := 0) Try.isAgg3 hg26 rfl rfl hH20) (.inr hS21) ?_
    refine FWs.val rfl 27 rfl rfl (Value.bool (decide (x22 ≤ i))) _ (r_geq rfl rfl) (.inr hS21) ?_
    refine FWs.val rfl 28 rfl rfl (Value.bool (decide (x22 ≤ i))) _ (r_pick (t := true) rfl) (.inr hS21) ?_
    refine FWs.val rfl 8 rfl rfl (Value.bool (decide (x22 ≤ i))) _ (r_assign) (.inr hS21) ?_
    refine FWs.nil (hK2 _ _ ?_)
    clear hK2 K2
    refine FW.ret (?_)
    refine ret_tmp (v := Value.bool (decide (x22 ≤ i))) Try.results49 (.inl rfl) rfl ?_
    exact ⟨congrArg Value.bool (by first | exact within_yes (by assumption) (by assumption) (by assumption) | exact within_no (by assumption)), hE_19⟩
  | false =>
    have hp27 : ¬ (0 ≤ q) := of_decide_eq_false hb7
    refine FWs.takeSkip rfl 12 rfl rfl hS5 ?_
    refine FWs.takeSkip rfl 13 rfl rfl hS5 ?_
    refine FWs.takeSkip rfl 14 rfl rfl hS5 ?_
    refine FWs.takeSkip rfl 15 rfl rfl hS5 ?_
    refine FWs.takeSkip rfl 16 rfl rfl hS5 ?_
    refine FWs.takeSkip rfl 17 rfl rfl hS5 ?_
    refine FWs.takeSkip rfl 18 rfl rfl hS5 ?_
    refine FWs.takeSkip rfl 19 rfl rfl hS5 ?_
    refine FWs.takeSkip rfl 20 rfl rfl hS5 ?_
    refine FWs.takeSkip rfl 21 rfl rfl hS5 ?_
    refine FWs.skip rfl 22 rfl rfl (.inr hS5) ?_
    refine FWs.skip rfl 23 rfl rfl (.inr hS5) ?_
    refine FWs.skip rfl 24 rfl rfl (.inr hS5) ?_
    refine FWs.skip rfl 25 rfl rfl (.inr hS5) ?_
    refine FWs.skip rfl 26 rfl rfl (.inr hS5) ?_
    refine FWs.skip rfl 27 rfl rfl (.inr hS5) ?_
    refine FWs.val rfl 28 rfl rfl (Value.bool false) _ (r_pick (t := false) rfl) (.inr hS5) ?_
    refine FWs.val rfl 8 rfl rfl (Value.bool false) _ (r_assign) (.inr hS5) ?_
    refine FWs.nil (hK2 _ _ ?_)
    clear hK2 K2
    refine FW.ret (?_)
    refine ret_tmp (v := Value.bool false) Try.results49 (.inl rfl) rfl ?_
    exact ⟨congrArg Value.bool (by first | exact within_yes (by assumption) (by assumption) (by assumption) | exact within_no (by assumption)), hE_3⟩

theorem step_c {A1 A2 A3 : Option Addr} {c1 c2 c3 gf : Nat} {a b : List Int} {rows : List (List Int)} {B : Nat} {w : World} {C : Gh} (hH : Has w C) (stf : St w C gf [.slice A1 a.length c1, .slice A2 b.length c2, .slice A3 rows.length c3] 100) (hsa : Sl (kInt .i64) C A1 c1 a) (hsb : Sl (kInt .i64) C A2 c2 b) (hsr : Sl (kSl (kInt .i64)) C A3 c3 rows) (ho : Own B 39 1 w C A3 rows.length c3) (hg : B ≤ gf) (hall : ∀ r ∈ rows, r.length = a.length + b.length + 3) (hval : ∀ r ∈ rows, ∀ v ∈ r, 0 ≤ v ∧ v ≤ 1073741824) (h0 : 0 < rows.length) (h3 : a.length ≤ 400) (h4 : b.length ≤ 400) (h5 : rows.length ≤ 100000) : Ret Try.prog 47 #[.pointer (some ⟨gf, 0, none⟩)] w fun v w' => ∃ (C' : Gh) (A3' : Option Addr) (c3' : Nat), v = .bool (decide (rd (stepRow a b (lastR rows)) (0 + ((b.length : Nat) : Int) + 1) = 0)) ∧ Ext B w C w' C' ∧ St w' C' gf [.slice A1 a.length c1, .slice A2 b.length c2, .slice A3' (rows ++ [stepRow a b (lastR rows)]).length c3'] 100 ∧ Sl (kSl (kInt .i64)) C' A3' c3' (rows ++ [stepRow a b (lastR rows)]) ∧ Own B 39 1 w' C' A3' (rows ++ [stepRow a b (lastR rows)]).length c3' := by
  refine Ret.of Try.func47 rfl Try.ntmps47 rfl ?_
  have hE := Ext.refl (B := B) hH; have hlt_stf := stf.lt; have hB0 : B ≤ w.heap.size := Nat.le_trans hg (Nat.le_of_lt hlt_stf); have hal := hsa.bd; have hbl := hsb.bd; have hrl := hsr.bd
  refine FW.seq_k fun K1 hK1 => ?_
  refine FW.region rfl ?_
  refine FWl.val 2 rfl rfl (Value.bool false) _ (r_assign) ?_
  refine FWl.nil (hK1 _ _ ?_)
  clear hK1 K1
  refine FW.seq_k fun K2 hK2 => ?_
  refine FW.regionDraw mixed (SS C (fun _ => True) w.drew) [] [(0, true), (1, true), (2, true), (3, true), (4, true), (5, true), (6, true), (7, true), (8, true), (9, true), (10, false), (11, false)] rfl (by kernel_rfl) ?_
  have e2 : Ext w.heap.size w C w.drew C := (Ext.refl hH).drew
  generalize w.drew = w1 at *
  have hE_3 := hE.trans (e2.mono (Nat.le_trans hB0 hE.size))
  have stf_4 := stf.call e2
  have ho_5 := ho.call e2
  have hH6 := e2.has
  have hS7 : SS C (fun _ => True) w1 w1 := SS.refl hH6
  have hle8 := Gle.refl C
  refine FWs.take rfl 12 rfl rfl (Value.pointer (some ⟨gf, 0, none⟩)) hS7 (fun _ _ => r_move) ?_
  refine FWs.take rfl 13 rfl rfl (Value.pointer (some ⟨gf, 0, none⟩)) hS7 (fun _ _ => r_nilCheck rfl) ?_
  refine FWs.take rfl 14 rfl rfl (Value.pointer (some ⟨gf, 0, none⟩)) hS7 (fun _ _ => r_fieldAddrS Try.underlying100 rfl Try.sizeOf39 rfl rfl rfl rfl) ?_
  refine FWs.take rfl 15 rfl rfl (Value.slice A1 a.length c1) hS7 (fun _ hS' => r_load1 Try.isAgg39 rfl (hS'.cell stf_4 trivial rfl)) ?_
  refine FWs.take rfl 16 rfl rfl (Value.int .i64 ((a.length : Nat) : Int)) hS7 (fun _ _ => r_lenSl Try.underlying39 rfl) ?_
  refine FWs.take rfl 17 rfl rfl (Value.pointer (some ⟨gf, 0, none⟩)) hS7 (fun _ _ => r_move) ?_
  refine FWs.take rfl 18 rfl rfl (Value.pointer (some ⟨gf, 0, none⟩)) hS7 (fun _ _ => r_nilCheck rfl) ?_
  refine FWs.take rfl 19 rfl rfl (Value.pointer (some ⟨gf, 1, none⟩)) hS7 (fun _ _ => r_fieldAddrS Try.underlying100 rfl Try.sizeOf39 rfl rfl rfl rfl) ?_
  refine FWs.take rfl 20 rfl rfl (Value.slice A2 b.length c2) hS7 (fun _ hS' => r_load1 Try.isAgg39 rfl (hS'.cell stf_4 trivial rfl)) ?_
  refine FWs.take rfl 21 rfl rfl (Value.int .i64 ((b.length : Nat) : Int)) hS7 (fun _ _ => r_lenSl Try.underlying39 rfl) ?_
  refine FWs.val rfl 3 rfl rfl (Value.int .i64 ((a.length : Nat) : Int)) _ (r_assign) (.inr hS7) ?_
  refine FWs.val rfl 4 rfl rfl (Value.int .i64 ((b.length : Nat) : Int)) _ (r_assign) (.inr hS7) ?_
  refine FWs.nil (hK2 _ _ ?_)
  clear hK2 K2
  refine FW.seq_k fun K3 hK3 => ?_
  refine FW.regionDraw mixed (SS C (fun _ => True) w1.drew) [] [(0, true), (1, true), (2, true), (3, true), (4, false), (5, false), (6, false), (7, false), (8, false), (9, false), (10, false), (11, false), (12, false)] rfl (by kernel_rfl) ?_
  have e10 : Ext w1.heap.size w1 C w1.drew C := (Ext.refl hH6).drew
  generalize w1.drew = w9 at *
  have hE_11 := hE_3.trans (e10.mono (Nat.le_trans hB0 hE_3.size))
  have stf_12 := stf_4.call e10
  have ho_13 := ho_5.call e10
  have hH14 := e10.has
  have hS15 : SS C (fun _ => True) w9 w9 := SS.refl hH14
  have hle16 := Gle.refl C
  refine FWs.take rfl 22 rfl rfl (Value.pointer (some ⟨gf, 0, none⟩)) hS15 (fun _ _ => r_move) ?_
  refine FWs.take rfl 23 rfl rfl (Value.pointer (some ⟨gf, 0, none⟩)) hS15 (fun _ _ => r_nilCheck rfl) ?_
  refine FWs.take rfl 24 rfl rfl (Value.pointer (some ⟨gf, 2, none⟩)) hS15 (fun _ _ => r_fieldAddrS Try.underlying100 rfl Try.sizeOf34 rfl rfl rfl rfl) ?_
  refine FWs.take rfl 25 rfl rfl (Value.slice A3 rows.length c3) hS15 (fun _ hS' => r_load1 Try.isAgg34 rfl (hS'.cell stf_12 trivial rfl)) ?_
  refine FWs.val rfl 26 rfl rfl (Value.pointer (some ⟨gf, 0, none⟩)) _ (r_move) (.inr hS15) ?_
  refine FWs.val rfl 27 rfl rfl (Value.pointer (some ⟨gf, 0, none⟩)) _ (r_nilCheck rfl) (.inr hS15) ?_
  refine FWs.val rfl 28 rfl rfl (Value.pointer (some ⟨gf, 2, none⟩)) _ (r_fieldAddrS Try.underlying100 rfl Try.sizeOf34 rfl rfl rfl rfl) (.inr hS15) ?_
  refine FWs.val rfl 29 rfl rfl (Value.slice A3 rows.length c3) _ (r_load1 Try.isAgg34 rfl (stf_12.cell rfl)) (.inr hS15) ?_
  refine FWs.val rfl 30 rfl rfl (Value.int .i64 ((rows.length : Nat) : Int)) _ (r_lenSl Try.underlying34 rfl) (.inr hS15) ?_
  refine FWs.val rfl 31 rfl rfl (Value.int .i64 (((rows.length : Nat) : Int) - 1)) _ (r_subI rfl rfl (by omega) (by omega)) (.inr hS15) ?_
  obtain ⟨x17, hx18⟩ := get_some (xs := rows) (j := (((rows.length : Nat) : Int) - 1).toNat) (by omega)
  obtain ⟨cs19, hr20, hg21⟩ := hsr.at_ _ _ hx18
  obtain ⟨A22, c23, rfl, hs24⟩ := hr20
  have hxm := List.mem_of_getElem? hx18
  have hxl := hall _ (List.mem_of_getElem? hx18)
  have hla := lastR_of (by omega) hx18
  refine FWs.val rfl 32 rfl rfl (ptrAt A3 ((((rows.length : Nat) : Int) - 1).toNat * 1)) _ (r_indexAddr Try.underlying34 Try.sizeOf39 rfl rfl (hsr.isSome (by omega)) (by omega) (by omega)) (.inr hS15) ?_
  refine FWs.val rfl 33 rfl rfl (Value.slice A22 x17.length c23) _ (r_loadG1 (i := 0) Try.isAgg39 hg21 rfl rfl hH14) (.inr hS15) ?_
  refine FWs.val rfl 5 rfl rfl (Value.slice A22 x17.length c23) _ (r_assign) (.inr hS15) ?_
  refine FWs.nil (hK3 _ _ ?_)
  clear hK3 K3
  refine FW.seq_k fun K4 hK4 => ?_
  refine FW.region rfl ?_
  refine FWl.val 34 rfl rfl (Value.slice A22 x17.length c23) _ (r_move) ?_
  refine FWl.val 35 rfl rfl (Value.int .i64 ((x17.length : Nat) : Int)) _ (r_lenSl Try.underlying39 rfl) ?_
  refine FWl.makeI (n := x17.length) rfl rfl rfl Try.underlying39 info3 zero3 rfl rfl rfl rfl (by omega) hH14 ?_
  intro g25 w26 st27 e28 hg29
  have hge_st27_hE := Nat.le_trans (Nat.le_trans hB0 hE_11.size) (Nat.le_of_eq hg29)
  have hE_31 := hE_11.trans (e28.mono (Nat.le_trans hB0 hE_11.size))
  have stf_32 := stf_12.call e28
  have ho_33 := ho_13.call e28
  have hH34 := e28.has
  have hlt_st27 := st27.lt
  have hl30 : (List.replicate x17.length (0 : Int)).length = x17.length := by simp
  refine FWl.val 6 rfl rfl (Value.slice (some ⟨g25, 0, none⟩) x17.length x17.length) _ (r_assign) ?_
  refine FWl.nil (hK4 _ _ ?_)
  clear hK4 K4
  refine FW.seq_k fun K5 hK5 => ?_
  refine FW.region rfl ?_
  refine FWl.val 37 rfl rfl (Value.slice (some ⟨g25, 0, none⟩) x17.length x17.length) _ (r_move) ?_
  refine FWl.val 38 rfl rfl (Value.slice A22 x17.length c23) _ (r_move) ?_
  refine FWl.copyI rfl rfl rfl Try.underlying39 (by rw [info3]; rfl) st27 hs24 (by have := hl30; omega) hH34 (by omega) rfl rfl (by omega) ?_
  intro w36 m37 st27_38
  have hl39 : x17.length = x17.length := by omega
  have hE_40 := hE_31.trans (m37.ext (Nat.le_trans hB0 hE_31.size) (by omega))
  have stf_41 := stf_32.other m37 (stf_32.ne_type st27 (by decide))
  have ho_42 := ho_33.mut m37 (ho_33.nbT st27 (by decide))
  have hH43 := m37.has
  refine FWl.nil (hK5 _ _ ?_)
  clear hK5 K5
  refine FW.seq_k fun K6 hK6 => ?_
  refine FW.seq_k fun K7 hK7 => ?_
  refine FW.region rfl ?_
  refine FWl.val 40 rfl rfl (Value.int .i64 ((b.length : Nat) : Int)) _ (r_move) ?_
  refine FWl.val 41 rfl rfl (Value.int .i64 (0 - ((b.length : Nat) : Int))) _ (r_negI rfl (by omega) (by omega)) ?_
  refine FWl.val 7 rfl rfl (Value.int .i64 (0 - ((b.length : Nat) : Int))) _ (r_assign) ?_
  refine FWl.nil (hK7 _ _ ?_)
  clear hK7 K7
  refine FW.block ?_
  refine FW.loop_m (fun msr T w44 => ∃ (C45 : Gh) (k : Int) (row : List Int), Holds T [(0, Value.pointer (some ⟨gf, 0, none⟩)), (2, Value.bool false), (3, Value.int .i64 ((a.length : Nat) : Int)), (4, Value.int .i64 ((b.length : Nat) : Int)), (5, Value.slice A22 x17.length c23), (6, Value.slice (some ⟨g25, 0, none⟩) x17.length x17.length), (7, Value.int .i64 k), (12, Value.pointer (some ⟨gf, 0, none⟩)), (13, Value.pointer (some ⟨gf, 0, none⟩)), (14, Value.pointer (some ⟨gf, 0, none⟩)), (15, Value.slice A1 a.length c1), (16, Value.int .i64 ((a.length : Nat) : Int)), (17, Value.pointer (some ⟨gf, 0, none⟩)), (18, Value.pointer (some ⟨gf, 0, none⟩)), (19, Value.pointer (some ⟨gf, 1, none⟩)), (20, Value.slice A2 b.length c2), (21, Value.int .i64 ((b.length : Nat) : Int)), (22, Value.pointer (some ⟨gf, 0, none⟩)), (23, Value.pointer (some ⟨gf, 0, none⟩)), (24, Value.pointer (some ⟨gf, 2, none⟩)), (25, Value.slice A3 rows.length c3), (26, Value.pointer (some ⟨gf, 0, none⟩)), (27, Value.pointer (some ⟨gf, 0, none⟩)), (28, Value.pointer (some ⟨gf, 2, none⟩)), (29, Value.slice A3 rows.length c3), (30, Value.int .i64 ((rows.length : Nat) : Int)), (31, Value.int .i64 (((rows.length : Nat) : Int) - 1)), (32, ptrAt A3 ((((rows.length : Nat) : Int) - 1).toNat * 1)), (33, Value.slice A22 x17.length c23), (34, Value.slice A22 x17.length c23), (35, Value.int .i64 ((x17.length : Nat) : Int)), (36, Value.slice (some ⟨g25, 0, none⟩) x17.length x17.length), (37, Value.slice (some ⟨g25, 0, none⟩) x17.length x17.length), (38, Value.slice A22 x17.length c23), (39, Value.int .i64 ((x17.length : Nat) : Int)), (40, Value.int .i64 ((b.length : Nat) : Int)), (41, Value.int .i64 (0 - ((b.length : Nat) : Int)))] ∧ Ext (B) w36 C w44 C45 ∧ (St w44 C45 g25 (ri row) 3) ∧ (row.length = x17.length) ∧ (-((b.length : Nat) : Int) ≤ k ∧ k ≤ ((a.length : Nat) : Int) + 1) ∧ (row = upRow a b x17 (k + ((b.length : Nat) : Int)).toNat) ∧ (St w44 C45 gf [Value.slice A1 a.length c1, Value.slice A2 b.length c2, Value.slice A3 rows.length c3] 100) ∧ (Own B 39 1 w44 C45 A3 rows.length c3) ∧ msr = (((a.length : Nat) : Int) + 1 - k).toNat) ((((a.length : Nat) : Int) + 1 - (0 - ((b.length : Nat) : Int))).toNat) ?_ ?_
  · exact ⟨C, 0 - ((b.length : Nat) : Int), x17, ⟨rfl, rfl, rfl, rfl, rfl, rfl, rfl, rfl, rfl, rfl, rfl, rfl, rfl, rfl, rfl, rfl, rfl, rfl, rfl, rfl, rfl, rfl, rfl, rfl, rfl, rfl, rfl, rfl, rfl, rfl, rfl, rfl, rfl, rfl, rfl, rfl, rfl, trivial⟩, Ext.refl hH43, st27_38, hl39, ⟨by omega, by omega⟩, by rw [show (0 - ((b.length : Nat) : Int) + ((b.length : Nat) : Int)).toNat = 0 by omega]; rfl, stf_41, ho_42, rfl⟩
  · rintro msr T w44 ⟨C45, k, row, hT, hL1, stR, hlR, hk, hrow, stfL46, hoL47, rfl⟩
    refine FW.frame hT fun B1 => ?_
    have hE_48 := hE_40.trans hL1
    have hsa_49 := hsa.mono hL1.le
    have hsb_50 := hsb.mono hL1.le
    have hsr_51 := hsr.mono hL1.le
    have hs24_53 := hs24.mono hL1.le
    have hH54 := hL1.has
    have hrlt := stR.lt
    refine FW.seq_k fun K8 hK8 => ?_
    refine FW.seq_k fun K9 hK9 => ?_
    refine FW.region rfl ?_
    refine FWl.val 42 rfl rfl (Value.int .i64 k) _ (r_move) ?_
    refine FWl.val 43 rfl rfl (Value.int .i64 ((a.length : Nat) : Int)) _ (r_move) ?_
    refine FWl.val 44 rfl rfl (Value.bool (decide (k ≤ ((a.length : Nat) : Int)))) _ (r_leq rfl rfl) ?_
    refine FWl.nil (hK9 _ _ ?_)
    clear hK9 K9
    refine FW.cond (decide (k ≤ ((a.length : Nat) : Int))) rfl (fun hc55 => ?_) (fun hc55 => ?_)
    · have hp56 : k ≤ ((a.length : Nat) : Int) := of_decide_eq_true hc55
      refine FW.skip (hK8 _ _ ?_)
      clear hK8 K8
      refine FW.seq_k fun K10 hK10 => ?_
      refine FW.block ?_
      refine FW.seq_k fun K11 hK11 => ?_
      refine FW.region rfl ?_
      refine FWl.val 47 rfl rfl (Value.int .i64 k) _ (r_move) ?_
      refine FWl.val 48 rfl rfl (Value.int .i64 (max 0 k)) _ (r_max2 rfl rfl) ?_
      refine FWl.val 8 rfl rfl (Value.int .i64 1073741824) _ (r_assign) ?_
      refine FWl.val 9 rfl rfl (Value.int .i64 (max 0 k)) _ (r_assign) ?_
      refine FWl.nil (hK11 _ _ ?_)
      clear hK11 K11
      refine FW.seq_k fun K12 hK12 => ?_
      refine FW.seq_k fun K13 hK13 => ?_
      refine FW.region rfl ?_
      refine FWl.val 49 rfl rfl (Value.slice A22 x17.length c23) _ (r_move) ?_
      refine FWl.val 50 rfl rfl (Value.pointer (some ⟨gf, 0, none⟩)) _ (r_move) ?_
      refine FWl.val 51 rfl rfl (Value.int .i64 k) _ (r_move) ?_
      refine FWl.val 52 rfl rfl (Value.int .i64 (k + 1)) _ (r_addI rfl rfl (by omega) (by omega)) ?_
      refine FWl.call 53 rfl rfl 46 #[Value.pointer (some ⟨gf, 0, none⟩), Value.int .i64 (k + 1)] (r_call2 Try.call46 rfl rfl rfl) ((slot_c hH54 stfL46 hsa_49 hsb_50 hsr_51 (k := k + 1) (by omega) (by omega)).mono ?_)
      rintro _ w57 ⟨rfl, e58⟩
      have hE_59 := hE_48.trans (e58.mono (Nat.le_trans hB0 hE_48.size))
      have hL1_60 := hL1.trans (e58.mono (Nat.le_trans hB0 hE_48.size))
      have stf_61 := stfL46.call e58
      have stR_62 := stR.call e58
      have ho_63 := hoL47.call e58
      have hH64 := e58.has
      obtain ⟨x65, hx66⟩ := get_some (xs := x17) (j := ((k + 1) + ((b.length : Nat) : Int) + 1).toNat) (by omega)
      obtain ⟨cs67, hr68, hg69⟩ := hs24_53.at_ _ _ hx66
      obtain rfl := hr68
      have hvv := hval _ hxm _ (List.mem_of_getElem? hx66)
      refine FWl.val 54 rfl rfl (ptrAt A22 (((k + 1) + ((b.length : Nat) : Int) + 1).toNat * 1)) _ (r_indexAddr Try.underlying39 Try.sizeOf3 rfl rfl (hs24_53.isSome (by omega)) (by omega) (by omega)) ?_
      refine FWl.val 55 rfl rfl (Value.int .i64 x65) _ (r_loadG1 (i := 0) Try.isAgg3 hg69 rfl rfl hH64) ?_
      refine FWl.val 56 rfl rfl (Value.int .i64 (x65 - 1)) _ (r_subI rfl rfl (by omega) (by omega)) ?_
      refine FWl.val 57 rfl rfl (Value.int .i64 (max 0 k)) _ (r_move) ?_
      refine FWl.val 58 rfl rfl (Value.int .i64 (max (x65 - 1) (max 0 k))) _ (r_max2 rfl rfl) ?_
      refine FWl.val 10 rfl rfl (Value.int .i64 (max (x65 - 1) (max 0 k))) _ (r_assign) ?_
      refine FWl.nil (hK13 _ _ ?_)
      clear hK13 K13
      refine FW.seq_k fun K14 hK14 => ?_
      refine FW.region rfl ?_
      refine FWl.val 59 rfl rfl (Value.int .i64 (max (x65 - 1) (max 0 k))) _ (r_move) ?_
      refine FWl.val 60 rfl rfl (Value.int .i64 ((a.length : Nat) : Int)) _ (r_move) ?_
      refine FWl.val 61 rfl rfl (Value.bool (decide ((max (x65 - 1) (max 0 k)) < ((a.length : Nat) : Int)))) _ (r_lss rfl rfl) ?_
      refine FWl.val 62 rfl rfl (Value.bool (decide ((max (x65 - 1) (max 0 k)) < ((a.length : Nat) : Int)))) _ (r_move) ?_
      cases hb70 : (decide ((max (x65 - 1) (max 0 k)) < ((a.length : Nat) : Int))) with
      | true =>
        have hp71 : (max (x65 - 1) (max 0 k)) < ((a.length : Nat) : Int) := of_decide_eq_true hb70
        refine FWl.val 63 rfl rfl (Value.int .i64 (max (x65 - 1) (max 0 k))) _ (r_move) ?_
        refine FWl.val 64 rfl rfl (Value.int .i64 k) _ (r_move) ?_
        refine FWl.val 65 rfl rfl (Value.int .i64 ((max (x65 - 1) (max 0 k)) - k)) _ (r_subI rfl rfl (by omega) (by omega)) ?_
        refine FWl.val 66 rfl rfl (Value.int .i64 ((b.length : Nat) : Int)) _ (r_move) ?_
        refine FWl.val 67 rfl rfl (Value.bool (decide (((max (x65 - 1) (max 0 k)) - k) ≤ ((b.length : Nat) : Int)))) _ (r_leq rfl rfl) ?_
        refine FWl.val 68 rfl rfl (Value.bool (decide (((max (x65 - 1) (max 0 k)) - k) ≤ ((b.length : Nat) : Int)))) _ (r_pick (t := true) rfl) ?_
        refine FWl.nil (hK14 _ _ ?_)
        clear hK14 K14
        refine FW.cond (decide (((max (x65 - 1) (max 0 k)) - k) ≤ ((b.length : Nat) : Int))) rfl (fun hc72 => ?_) (fun hc72 => ?_)
        · have hp73 : ((max (x65 - 1) (max 0 k)) - k) ≤ ((b.length : Nat) : Int) := of_decide_eq_true hc72
          refine FW.region rfl ?_
          refine FWl.val 69 rfl rfl (Value.int .i64 (max (x65 - 1) (max 0 k))) _ (r_move) ?_
          refine FWl.val 8 rfl rfl (Value.int .i64 (max (x65 - 1) (max 0 k))) _ (r_assign) ?_
          refine FWl.nil (hK12 _ _ ?_)
          clear hK12 K12
          refine FW.seq_k fun K15 hK15 => ?_
          refine FW.seq_k fun K16 hK16 => ?_
          refine FW.region rfl ?_
          refine FWl.val 70 rfl rfl (Value.slice A22 x17.length c23) _ (r_move) ?_
          refine FWl.val 71 rfl rfl (Value.pointer (some ⟨gf, 0, none⟩)) _ (r_move) ?_
          refine FWl.val 72 rfl rfl (Value.int .i64 k) _ (r_move) ?_
          refine FWl.val 73 rfl rfl (Value.int .i64 (k - 1)) _ (r_subI rfl rfl (by omega) (by omega)) ?_
          refine FWl.call 74 rfl rfl 46 #[Value.pointer (some ⟨gf, 0, none⟩), Value.int .i64 (k - 1)] (r_call2 Try.call46 rfl rfl rfl) ((slot_c hH64 stf_61 hsa_49 hsb_50 hsr_51 (k := k - 1) (by omega) (by omega)).mono ?_)
          rintro _ w74 ⟨rfl, e75⟩
          have hE_76 := hE_59.trans (e75.mono (Nat.le_trans hB0 hE_59.size))
          have hL1_77 := hL1_60.trans (e75.mono (Nat.le_trans hB0 hE_59.size))
          have stf_78 := stf_61.call e75
          have stR_79 := stR_62.call e75
          have ho_80 := ho_63.call e75
          have hH81 := e75.has
          obtain ⟨x82, hx83⟩ := get_some (xs := x17) (j := ((k - 1) + ((b.length : Nat) : Int) + 1).toNat) (by omega)
          obtain ⟨cs84, hr85, hg86⟩ := hs24_53.at_ _ _ hx83
          obtain rfl := hr85
          have hvv := hval _ hxm _ (List.mem_of_getElem? hx83)
          refine FWl.val 75 rfl rfl (ptrAt A22 (((k - 1) + ((b.length : Nat) : Int) + 1).toNat * 1)) _ (r_indexAddr Try.underlying39 Try.sizeOf3 rfl rfl (hs24_53.isSome (by omega)) (by omega) (by omega)) ?_
          refine FWl.val 76 rfl rfl (Value.int .i64 x82) _ (r_loadG1 (i := 0) Try.isAgg3 hg86 rfl rfl hH81) ?_
          refine FWl.val 77 rfl rfl (Value.int .i64 (max 0 k)) _ (r_move) ?_
          refine FWl.val 78 rfl rfl (Value.int .i64 (max x82 (max 0 k))) _ (r_max2 rfl rfl) ?_
          refine FWl.val 11 rfl rfl (Value.int .i64 (max x82 (max 0 k))) _ (r_assign) ?_
          refine FWl.nil (hK16 _ _ ?_)
          clear hK16 K16
          refine FW.seq_k fun K17 hK17 => ?_
          refine FW.region rfl ?_
          refine FWl.val 79 rfl rfl (Value.int .i64 (max x82 (max 0 k))) _ (r_move) ?_
          refine FWl.val 80 rfl rfl (Value.int .i64 ((a.length : Nat) : Int)) _ (r_move) ?_
          refine FWl.val 81 rfl rfl (Value.bool (decide ((max x82 (max 0 k)) ≤ ((a.length : Nat) : Int)))) _ (r_leq rfl rfl) ?_
          refine FWl.val 82 rfl rfl (Value.bool (decide ((max x82 (max 0 k)) ≤ ((a.length : Nat) : Int)))) _ (r_move) ?_
          cases hb87 : (decide ((max x82 (max 0 k)) ≤ ((a.length : Nat) : Int))) with
          | true =>
            have hp88 : (max x82 (max 0 k)) ≤ ((a.length : Nat) : Int) := of_decide_eq_true hb87
            refine FWl.val 83 rfl rfl (Value.int .i64 (max x82 (max 0 k))) _ (r_move) ?_
            refine FWl.val 84 rfl rfl (Value.int .i64 k) _ (r_move) ?_
            refine FWl.val 85 rfl rfl (Value.int .i64 ((max x82 (max 0 k)) - k)) _ (r_subI rfl rfl (by omega) (by omega)) ?_
            refine FWl.val 86 rfl rfl (Value.int .i64 ((b.length : Nat) : Int)) _ (r_move) ?_
            refine FWl.val 87 rfl rfl (Value.bool (decide (((max x82 (max 0 k)) - k) < ((b.length : Nat) : Int)))) _ (r_lss rfl rfl) ?_
            refine FWl.val 88 rfl rfl (Value.bool (decide (((max x82 (max 0 k)) - k) < ((b.length : Nat) : Int)))) _ (r_pick (t := true) rfl) ?_
            refine FWl.nil (hK17 _ _ ?_)
            clear hK17 K17
            refine FW.cond (decide (((max x82 (max 0 k)) - k) < ((b.length : Nat) : Int))) rfl (fun hc89 => ?_) (fun hc89 => ?_)
            · have hp90 : ((max x82 (max 0 k)) - k) < ((b.length : Nat) : Int) := of_decide_eq_true hc89
              refine FW.region rfl ?_
              refine FWl.val 89 rfl rfl (Value.int .i64 (max (x65 - 1) (max 0 k))) _ (r_move) ?_
              refine FWl.val 90 rfl rfl (Value.int .i64 (max x82 (max 0 k))) _ (r_move) ?_
              refine FWl.val 91 rfl rfl (Value.int .i64 (min (max (x65 - 1) (max 0 k)) (max x82 (max 0 k)))) _ (r_min2 rfl rfl) ?_
              refine FWl.val 8 rfl rfl (Value.int .i64 (min (max (x65 - 1) (max 0 k)) (max x82 (max 0 k)))) _ (r_assign) ?_
              refine FWl.nil (hK15 _ _ ?_)
              clear hK15 K15
              refine FW.seq_k fun K18 hK18 => ?_
              refine FW.region rfl ?_
              refine FWl.val 92 rfl rfl (Value.int .i64 (min (max (x65 - 1) (max 0 k)) (max x82 (max 0 k)))) _ (r_move) ?_
              refine FWl.val 93 rfl rfl (Value.bool (decide ((min (max (x65 - 1) (max 0 k)) (max x82 (max 0 k))) < 1073741824))) _ (r_lss rfl rfl) ?_
              refine FWl.nil (hK18 _ _ ?_)
              clear hK18 K18
              refine FW.cond (decide ((min (max (x65 - 1) (max 0 k)) (max x82 (max 0 k))) < 1073741824)) rfl (fun hc91 => ?_) (fun hc91 => ?_)
              · have hp92 : (min (max (x65 - 1) (max 0 k)) (max x82 (max 0 k))) < 1073741824 := of_decide_eq_true hc91
                refine FW.regionDraw mixed (SS C45 (fun _ => True) w74.drew) [16] [(0, true), (1, true), (2, true), (4, true), (5, true), (6, true), (10, true), (11, true), (12, true), (3, false), (7, false), (8, true), (9, true), (13, false), (14, false), (15, false), (16, false)] rfl (by kernel_rfl) ?_
                have e94 : Ext w74.heap.size w74 C45 w74.drew C45 := (Ext.refl hH81).drew
                generalize w74.drew = w93 at *
                have hE_95 := hE_76.trans (e94.mono (Nat.le_trans hB0 hE_76.size))
                have hL1_96 := hL1_77.trans (e94.mono (Nat.le_trans hB0 hE_76.size))
                have stf_97 := stf_78.call e94
                have stR_98 := stR_79.call e94
                have ho_99 := ho_80.call e94
                have hH100 := e94.has
                have hS101 : SS C45 (fun _ => True) w93 w93 := SS.refl hH100
                have hle102 := Gle.refl C45
                refine FWs.take rfl 94 rfl rfl (Value.slice (some ⟨g25, 0, none⟩) x17.length x17.length) hS101 (fun _ _ => r_move) ?_
                refine FWs.take rfl 95 rfl rfl (Value.pointer (some ⟨gf, 0, none⟩)) hS101 (fun _ _ => r_move) ?_
                refine FWs.take rfl 96 rfl rfl (Value.int .i64 k) hS101 (fun _ _ => r_move) ?_
                refine FWs.take rfl 98 rfl rfl (Value.slice (some ⟨g25, 0, none⟩) x17.length x17.length) hS101 (fun _ _ => r_move) ?_
                refine FWs.take rfl 99 rfl rfl (Value.pointer (some ⟨gf, 0, none⟩)) hS101 (fun _ _ => r_move) ?_
                refine FWs.take rfl 100 rfl rfl (Value.int .i64 k) hS101 (fun _ _ => r_move) ?_
                refine FWs.take rfl 104 rfl rfl (Value.pointer (some ⟨gf, 0, none⟩)) hS101 (fun _ _ => r_move) ?_
                refine FWs.take rfl 105 rfl rfl (Value.int .i64 (min (max (x65 - 1) (max 0 k)) (max x82 (max 0 k)))) hS101 (fun _ _ => r_move) ?_
                refine FWs.take rfl 106 rfl rfl (Value.int .i64 k) hS101 (fun _ _ => r_move) ?_
                refine FWs.call rfl 97 rfl rfl 46 #[Value.pointer (some ⟨gf, 0, none⟩), Value.int .i64 k] (r_call2 Try.call46 rfl rfl rfl) ((slot_c hH100 stf_97 hsa_49 hsb_50 hsr_51 (k := k) (by omega) (by omega)).mono ?_)
                rintro _ w103 ⟨rfl, e104⟩
                have hE_105 := hE_95.trans (e104.mono (Nat.le_trans hB0 hE_95.size))
                have hL1_106 := hL1_96.trans (e104.mono (Nat.le_trans hB0 hE_95.size))
                have stf_107 := stf_97.call e104
                have stR_108 := stR_98.call e104
                have ho_109 := ho_99.call e104
                have hH110 := e104.has
                have hS111 := hS101.step e104
                refine ⟨(.inr hS111), ?_⟩
                refine FWs.call rfl 101 rfl rfl 46 #[Value.pointer (some ⟨gf, 0, none⟩), Value.int .i64 k] (r_call2 Try.call46 rfl rfl rfl) ((slot_c hH110 stf_107 hsa_49 hsb_50 hsr_51 (k := k) (by omega) (by omega)).mono ?_)
                rintro _ w112 ⟨rfl, e113⟩
                have hE_114 := hE_105.trans (e113.mono (Nat.le_trans hB0 hE_105.size))
                have hL1_115 := hL1_106.trans (e113.mono (Nat.le_trans hB0 hE_105.size))
                have stf_116 := stf_107.call e113
                have stR_117 := stR_108.call e113
                have ho_118 := ho_109.call e113
                have hH119 := e113.has
                have hS120 := hS111.step e113
                refine ⟨(.inr hS120), ?_⟩
                refine FWs.take rfl 102 rfl rfl (Value.pointer (some ⟨g25, (k + ((b.length : Nat) : Int) + 1).toNat, none⟩)) hS120 (fun _ _ => r_indexAddrI Try.underlying39 Try.sizeOf3 rfl rfl (by omega) (by omega)) ?_
                obtain ⟨x121, hx122⟩ := get_some (xs := row) (j := (k + ((b.length : Nat) : Int) + 1).toNat) (by have := hlR; omega)
                refine FWs.take rfl 103 rfl rfl (Value.int .i64 x121) hS120 (fun _ hS' => r_load1 Try.isAgg3 rfl (hS'.cell stR_98 trivial (ri_at hx122))) ?_
                refine FWs.call rfl 107 rfl rfl 45 #[Value.pointer (some ⟨gf, 0, none⟩), Value.int .i64 (min (max (x65 - 1) (max 0 k)) (max x82 (max 0 k))), Value.int .i64 k] (r_call3 Try.call45 rfl rfl rfl rfl) ((slide_c hH119 stf_116 hsa_49 hsb_50 hsr_51 (x := min (max (x65 - 1) (max 0 k)) (max x82 (max 0 k))) (k := k) (by omega) (by omega) (by omega) (by omega) (by omega)).mono ?_)
                rintro _ w123 ⟨rfl, e124⟩
                have hE_125 := hE_114.trans (e124.mono (Nat.le_trans hB0 hE_114.size))
                have hL1_126 := hL1_115.trans (e124.mono (Nat.le_trans hB0 hE_114.size))
                have stf_127 := stf_116.call e124
                have stR_128 := stR_117.call e124
                have ho_129 := ho_118.call e124
                have hH130 := e124.has
                have hS131 := hS120.step e124
                refine ⟨(.inr hS131), ?_⟩
                refine FWs.val rfl 108 rfl rfl (Value.int .i64 (min x121 (slide a b (min (max (x65 - 1) (max 0 k)) (max x82 (max 0 k))) k))) _ (r_min2 rfl rfl) (.inr hS131) ?_
                refine FWs.val rfl 109 rfl rfl (Value.pointer (some ⟨g25, (k + ((b.length : Nat) : Int) + 1).toNat, none⟩)) _ (r_indexAddrI Try.underlying39 Try.sizeOf3 rfl rfl (by omega) (by omega)) (.inr hS131) ?_
                refine FWs.storeI rfl rfl rfl rfl Try.sizeOf3 stR_128 hH130 rfl rfl (by have := hlR; omega) ?_
                intro w132 m133 stR_134
                have hl135 : (row.set (k + ((b.length : Nat) : Int) + 1).toNat (min x121 (slide a b (min (max (x65 - 1) (max 0 k)) (max x82 (max 0 k))) k))).length = x17.length := by rw [List.length_set]; exact hlR
                have hL1_137 := hL1_126.trans (m133.ext (Nat.le_trans hB0 hE_125.size) (by omega))
                have stf_138 := stf_127.other m133 (stf_127.ne_type stR_128 (by decide))
                have ho_139 := ho_129.mut m133 (ho_129.nbT stR_128 (by decide))
                refine ⟨(.inl rfl), ?_⟩
                refine FWs.nil (hK10 _ _ ?_)
                clear hK10 K10
                refine FW.region rfl ?_
                refine FWl.val 45 rfl rfl (Value.int .i64 k) _ (r_move) ?_
                refine FWl.val 46 rfl rfl (Value.int .i64 (k + 1)) _ (r_addI rfl rfl (by omega) (by omega)) ?_
                refine FWl.val 7 rfl rfl (Value.int .i64 (k + 1)) _ (r_assign) ?_
                refine FWl.nil (thenF_norm (?_))
                refine ⟨_, ⟨C45, k + 1, (row.set (k + ((b.length : Nat) : Int) + 1).toNat (min x121 (slide a b (min (max (x65 - 1) (max 0 k)) (max x82 (max 0 k))) k))), ⟨rfl, rfl, rfl, rfl, rfl, rfl, rfl, rfl, rfl, rfl, rfl, rfl, rfl, rfl, rfl, rfl, rfl, rfl, rfl, rfl, rfl, rfl, rfl, rfl, rfl, rfl, rfl, rfl, rfl, rfl, rfl, rfl, rfl, rfl, rfl, rfl, rfl, trivial⟩, hL1_137, stR_134, hl135, ⟨by omega, by omega⟩, by first | (exfalso; omega) | (rw [show (k + 1 + ((b.length : Nat) : Int)).toNat = (k + ((b.length : Nat) : Int)).toNat + 1 by omega]; exact upRow_set (show k = ((k + ((b.length : Nat) : Int)).toNat : Int) - ((b.length : Nat) : Int) by omega) hrow (cand_eq (v1 := x65) (v2 := x82) (x := min (max (x65 - 1) (max 0 k)) (max x82 (max 0 k))) (by assumption) (by assumption) (x1 := _) (by first | exact .inl ⟨⟨by omega, by omega⟩, rfl⟩ | exact .inr ⟨by omega, rfl⟩) (by first | exact .inl ⟨⟨by omega, by omega⟩, rfl⟩ | exact .inr ⟨by omega, rfl⟩)) (by unfold far; omega) (by assumption)), stf_138, ho_139, rfl⟩, ?_⟩
                omega
              · have hp141 : ¬ ((min (max (x65 - 1) (max 0 k)) (max x82 (max 0 k))) < 1073741824) := of_decide_eq_false hc91
                refine FW.skip (hK10 _ _ ?_)
                clear hK10 K10
                refine FW.region rfl ?_
                refine FWl.val 45 rfl rfl (Value.int .i64 k) _ (r_move) ?_
                refine FWl.val 46 rfl rfl (Value.int .i64 (k + 1)) _ (r_addI rfl rfl (by omega) (by omega)) ?_
                refine FWl.val 7 rfl rfl (Value.int .i64 (k + 1)) _ (r_assign) ?_
                refine FWl.nil (thenF_norm (?_))
                refine ⟨_, ⟨C45, k + 1, row, ⟨rfl, rfl, rfl, rfl, rfl, rfl, rfl, rfl, rfl, rfl, rfl, rfl, rfl, rfl, rfl, rfl, rfl, rfl, rfl, rfl, rfl, rfl, rfl, rfl, rfl, rfl, rfl, rfl, rfl, rfl, rfl, rfl, rfl, rfl, rfl, rfl, rfl, trivial⟩, hL1_77, stR_79, hlR, ⟨by omega, by omega⟩, by first | (exfalso; omega) | (rw [show (k + 1 + ((b.length : Nat) : Int)).toNat = (k + ((b.length : Nat) : Int)).toNat + 1 by omega]; rw [upRow_skip (show k = ((k + ((b.length : Nat) : Int)).toNat : Int) - ((b.length : Nat) : Int) by omega) (cand_eq (v1 := x65) (v2 := x82) (x := min (max (x65 - 1) (max 0 k)) (max x82 (max 0 k))) (by assumption) (by assumption) (x1 := _) (by first | exact .inl ⟨⟨by omega, by omega⟩, rfl⟩ | exact .inr ⟨by omega, rfl⟩) (by first | exact .inl ⟨⟨by omega, by omega⟩, rfl⟩ | exact .inr ⟨by omega, rfl⟩)) (by unfold far; omega)]; exact hrow), stf_78, ho_80, rfl⟩, ?_⟩
                omega
            · have hp142 : ¬ (((max x82 (max 0 k)) - k) < ((b.length : Nat) : Int)) := of_decide_eq_false hc89
              refine FW.skip (hK15 _ _ ?_)
              clear hK15 K15
              refine FW.seq_k fun K19 hK19 => ?_
              refine FW.region rfl ?_
              refine FWl.val 92 rfl rfl (Value.int .i64 (max (x65 - 1) (max 0 k))) _ (r_move) ?_
              refine FWl.val 93 rfl rfl (Value.bool (decide ((max (x65 - 1) (max 0 k)) < 1073741824))) _ (r_lss rfl rfl) ?_
              refine FWl.nil (hK19 _ _ ?_)
              clear hK19 K19
              refine FW.cond (decide ((max (x65 - 1) (max 0 k)) < 1073741824)) rfl (fun hc143 => ?_) (fun hc143 => ?_)
              · have hp144 : (max (x65 - 1) (max 0 k)) < 1073741824 := of_decide_eq_true hc143
                refine FW.regionDraw mixed (SS C45 (fun _ => True) w74.drew) [16] [(0, true), (1, true), (2, true), (4, true), (5, true), (6, true), (10, true), (11, true), (12, true), (3, false), (7, false), (8, true), (9, true), (13, false), (14, false), (15, false), (16, false)] rfl (by kernel_rfl) ?_
                have e146 : Ext w74.heap.size w74 C45 w74.drew C45 := (Ext.refl hH81).drew
                generalize w74.drew = w145 at *
                have hE_147 := hE_76.trans (e146.mono (Nat.le_trans hB0 hE_76.size))
                have hL1_148 := hL1_77.trans (e146.mono (Nat.le_trans hB0 hE_76.size))
                have stf_149 := stf_78.call e146
                have stR_150 := stR_79.call e146
                have ho_151 := ho_80.call e146
                have hH152 := e146.has
                have hS153 : SS C45 (fun _ => True) w145 w145 := SS.refl hH152
                have hle154 := Gle.refl C45
                refine FWs.take rfl 94 rfl rfl (Value.slice (some ⟨g25, 0, none⟩) x17.length x17.length) hS153 (fun _ _ => r_move) ?_
                refine FWs.take rfl 95 rfl rfl (Value.pointer (some ⟨gf, 0, none⟩)) hS153 (fun _ _ => r_move) ?_
                refine FWs.take rfl 96 rfl rfl (Value.int .i64 k) hS153 (fun _ _ => r_move) ?_
                refine FWs.take rfl 98 rfl rfl (Value.slice (some ⟨g25, 0, none⟩) x17.length x17.length) hS153 (fun _ _ => r_move) ?_
                refine FWs.take rfl 99 rfl rfl (Value.pointer (some ⟨gf, 0, none⟩)) hS153 (fun _ _ => r_move) ?_
                refine FWs.take rfl 100 rfl rfl (Value.int .i64 k) hS153 (fun _ _ => r_move) ?_
                refine FWs.take rfl 104 rfl rfl (Value.pointer (some ⟨gf, 0, none⟩)) hS153 (fun _ _ => r_move) ?_
                refine FWs.take rfl 105 rfl rfl (Value.int .i64 (max (x65 - 1) (max 0 k))) hS153 (fun _ _ => r_move) ?_
                refine FWs.take rfl 106 rfl rfl (Value.int .i64 k) hS153 (fun _ _ => r_move) ?_
                refine FWs.call rfl 97 rfl rfl 46 #[Value.pointer (some ⟨gf, 0, none⟩), Value.int .i64 k] (r_call2 Try.call46 rfl rfl rfl) ((slot_c hH152 stf_149 hsa_49 hsb_50 hsr_51 (k := k) (by omega) (by omega)).mono ?_)
                rintro _ w155 ⟨rfl, e156⟩
                have hE_157 := hE_147.trans (e156.mono (Nat.le_trans hB0 hE_147.size))
                have hL1_158 := hL1_148.trans (e156.mono (Nat.le_trans hB0 hE_147.size))
                have stf_159 := stf_149.call e156
                have stR_160 := stR_150.call e156
                have ho_161 := ho_151.call e156
                have hH162 := e156.has
                have hS163 := hS153.step e156
                refine ⟨(.inr hS163), ?_⟩
                refine FWs.call rfl 101 rfl rfl 46 #[Value.pointer (some ⟨gf, 0, none⟩), Value.int .i64 k] (r_call2 Try.call46 rfl rfl rfl) ((slot_c hH162 stf_159 hsa_49 hsb_50 hsr_51 (k := k) (by omega) (by omega)).mono ?_)
                rintro _ w164 ⟨rfl, e165⟩
                have hE_166 := hE_157.trans (e165.mono (Nat.le_trans hB0 hE_157.size))
                have hL1_167 := hL1_158.trans (e165.mono (Nat.le_trans hB0 hE_157.size))
                have stf_168 := stf_159.call e165
                have stR_169 := stR_160.call e165
                have ho_170 := ho_161.call e165
                have hH171 := e165.has
                have hS172 := hS163.step e165
                refine ⟨(.inr hS172), ?_⟩
                refine FWs.take rfl 102 rfl rfl (Value.pointer (some ⟨g25, (k + ((b.length : Nat) : Int) + 1).toNat, none⟩)) hS172 (fun _ _ => r_indexAddrI Try.underlying39 Try.sizeOf3 rfl rfl (by omega) (by omega)) ?_
                obtain ⟨x173, hx174⟩ := get_some (xs := row) (j := (k + ((b.length : Nat) : Int) + 1).toNat) (by have := hlR; omega)
                refine FWs.take rfl 103 rfl rfl (Value.int .i64 x173) hS172 (fun _ hS' => r_load1 Try.isAgg3 rfl (hS'.cell stR_150 trivial (ri_at hx174))) ?_
                refine FWs.call rfl 107 rfl rfl 45 #[Value.pointer (some ⟨gf, 0, none⟩), Value.int .i64 (max (x65 - 1) (max 0 k)), Value.int .i64 k] (r_call3 Try.call45 rfl rfl rfl rfl) ((slide_c hH171 stf_168 hsa_49 hsb_50 hsr_51 (x := max (x65 - 1) (max 0 k)) (k := k) (by omega) (by omega) (by omega) (by omega) (by omega)).mono ?_)
                rintro _ w175 ⟨rfl, e176⟩
                have hE_177 := hE_166.trans (e176.mono (Nat.le_trans hB0 hE_166.size))
                have hL1_178 := hL1_167.trans (e176.mono (Nat.le_trans hB0 hE_166.size))
                have stf_179 := stf_168.call e176
                have stR_180 := stR_169.call e176
                have ho_181 := ho_170.call e176
                have hH182 := e176.has
                have hS183 := hS172.step e176
                refine ⟨(.inr hS183), ?_⟩
                refine FWs.val rfl 108 rfl rfl (Value.int .i64 (min x173 (slide a b (max (x65 - 1) (max 0 k)) k))) _ (r_min2 rfl rfl) (.inr hS183) ?_
                refine FWs.val rfl 109 rfl rfl (Value.pointer (some ⟨g25, (k + ((b.length : Nat) : Int) + 1).toNat, none⟩)) _ (r_indexAddrI Try.underlying39 Try.sizeOf3 rfl rfl (by omega) (by omega)) (.inr hS183) ?_
                refine FWs.storeI rfl rfl rfl rfl Try.sizeOf3 stR_180 hH182 rfl rfl (by have := hlR; omega) ?_
                intro w184 m185 stR_186
                have hl187 : (row.set (k + ((b.length : Nat) : Int) + 1).toNat (min x173 (slide a b (max (x65 - 1) (max 0 k)) k))).length = x17.length := by rw [List.length_set]; exact hlR
                have hL1_189 := hL1_178.trans (m185.ext (Nat.le_trans hB0 hE_177.size) (by omega))
                have stf_190 := stf_179.other m185 (stf_179.ne_type stR_180 (by decide))
                have ho_191 := ho_181.mut m185 (ho_181.nbT stR_180 (by decide))
                refine ⟨(.inl rfl), ?_⟩
                refine FWs.nil (hK10 _ _ ?_)
                clear hK10 K10
                refine FW.region rfl ?_
                refine FWl.val 45 rfl rfl (Value.int .i64 k) _ (r_move) ?_
                refine FWl.val 46 rfl rfl (Value.int .i64 (k + 1)) _ (r_addI rfl rfl (by omega) (by omega)) ?_
                refine FWl.val 7 rfl rfl (Value.int .i64 (k + 1)) _ (r_assign) ?_
                refine FWl.nil (thenF_norm (?_))
                refine ⟨_, ⟨C45, k + 1, (row.set (k + ((b.length : Nat) : Int) + 1).toNat (min x173 (slide a b (max (x65 - 1) (max 0 k)) k))), ⟨rfl, rfl, rfl, rfl, rfl, rfl, rfl, rfl, rfl, rfl, rfl, rfl, rfl, rfl, rfl, rfl, rfl, rfl, rfl, rfl, rfl, rfl, rfl, rfl, rfl, rfl, rfl, rfl, rfl, rfl, rfl, rfl, rfl, rfl, rfl, rfl, rfl, trivial⟩, hL1_189, stR_186, hl187, ⟨by omega, by omega⟩, by first | (exfalso; omega) | (rw [show (k + 1 + ((b.length : Nat) : Int)).toNat = (k + ((b.length : Nat) : Int)).toNat + 1 by omega]; exact upRow_set (show k = ((k + ((b.length : Nat) : Int)).toNat : Int) - ((b.length : Nat) : Int) by omega) hrow (cand_eq (v1 := x65) (v2 := x82) (x := max (x65 - 1) (max 0 k)) (by assumption) (by assumption) (x1 := _) (by first | exact .inl ⟨⟨by omega, by omega⟩, rfl⟩ | exact .inr ⟨by omega, rfl⟩) (by first | exact .inl ⟨⟨by omega, by omega⟩, rfl⟩ | exact .inr ⟨by omega, rfl⟩)) (by unfold far; omega) (by assumption)), stf_190, ho_191, rfl⟩, ?_⟩
                omega
              · have hp193 : ¬ ((max (x65 - 1) (max 0 k)) < 1073741824) := of_decide_eq_false hc143
                refine FW.skip (hK10 _ _ ?_)
                clear hK10 K10
                refine FW.region rfl ?_
                refine FWl.val 45 rfl rfl (Value.int .i64 k) _ (r_move) ?_
                refine FWl.val 46 rfl rfl (Value.int .i64 (k + 1)) _ (r_addI rfl rfl (by omega) (by omega)) ?_
                refine FWl.val 7 rfl rfl (Value.int .i64 (k + 1)) _ (r_assign) ?_
                refine FWl.nil (thenF_norm (?_))
                refine ⟨_, ⟨C45, k + 1, row, ⟨rfl, rfl, rfl, rfl, rfl, rfl, rfl, rfl, rfl, rfl, rfl, rfl, rfl, rfl, rfl, rfl, rfl, rfl, rfl, rfl, rfl, rfl, rfl, rfl, rfl, rfl, rfl, rfl, rfl, rfl, rfl, rfl, rfl, rfl, rfl, rfl, rfl, trivial⟩, hL1_77, stR_79, hlR, ⟨by omega, by omega⟩, by first | (exfalso; omega) | (rw [show (k + 1 + ((b.length : Nat) : Int)).toNat = (k + ((b.length : Nat) : Int)).toNat + 1 by omega]; rw [upRow_skip (show k = ((k + ((b.length : Nat) : Int)).toNat : Int) - ((b.length : Nat) : Int) by omega) (cand_eq (v1 := x65) (v2 := x82) (x := max (x65 - 1) (max 0 k)) (by assumption) (by assumption) (x1 := _) (by first | exact .inl ⟨⟨by omega, by omega⟩, rfl⟩ | exact .inr ⟨by omega, rfl⟩) (by first | exact .inl ⟨⟨by omega, by omega⟩, rfl⟩ | exact .inr ⟨by omega, rfl⟩)) (by unfold far; omega)]; exact hrow), stf_78, ho_80, rfl⟩, ?_⟩
                omega
          | false =>
            have hp194 : ¬ ((max x82 (max 0 k)) ≤ ((a.length : Nat) : Int)) := of_decide_eq_false hb87
            refine FWl.skip 83 rfl rfl ?_
            refine FWl.skip 84 rfl rfl ?_
            refine FWl.skip 85 rfl rfl ?_
            refine FWl.skip 86 rfl rfl ?_
            refine FWl.skip 87 rfl rfl ?_
            refine FWl.val 88 rfl rfl (Value.bool false) _ (r_pick (t := false) rfl) ?_
            refine FWl.nil (hK17 _ _ ?_)
            clear hK17 K17
            refine FW.cond false rfl (fun h => nomatch h) (fun _ => ?_)
            refine FW.skip (hK15 _ _ ?_)
            clear hK15 K15
            refine FW.seq_k fun K20 hK20 => ?_
            refine FW.region rfl ?_
            refine FWl.val 92 rfl rfl (Value.int .i64 (max (x65 - 1) (max 0 k))) _ (r_move) ?_
            refine FWl.val 93 rfl rfl (Value.bool (decide ((max (x65 - 1) (max 0 k)) < 1073741824))) _ (r_lss rfl rfl) ?_
            refine FWl.nil (hK20 _ _ ?_)
            clear hK20 K20
            refine FW.cond (decide ((max (x65 - 1) (max 0 k)) < 1073741824)) rfl (fun hc195 => ?_) (fun hc195 => ?_)
            · have hp196 : (max (x65 - 1) (max 0 k)) < 1073741824 := of_decide_eq_true hc195
              refine FW.regionDraw mixed (SS C45 (fun _ => True) w74.drew) [16] [(0, true), (1, true), (2, true), (4, true), (5, true), (6, true), (10, true), (11, true), (12, true), (3, false), (7, false), (8, true), (9, true), (13, false), (14, false), (15, false), (16, false)] rfl (by kernel_rfl) ?_
              have e198 : Ext w74.heap.size w74 C45 w74.drew C45 := (Ext.refl hH81).drew
              generalize w74.drew = w197 at *
              have hE_199 := hE_76.trans (e198.mono (Nat.le_trans hB0 hE_76.size))
              have hL1_200 := hL1_77.trans (e198.mono (Nat.le_trans hB0 hE_76.size))
              have stf_201 := stf_78.call e198
              have stR_202 := stR_79.call e198
              have ho_203 := ho_80.call e198
              have hH204 := e198.has
              have hS205 : SS C45 (fun _ => True) w197 w197 := SS.refl hH204
              have hle206 := Gle.refl C45
              refine FWs.take rfl 94 rfl rfl (Value.slice (some ⟨g25, 0, none⟩) x17.length x17.length) hS205 (fun _ _ => r_move) ?_
              refine FWs.take rfl 95 rfl rfl (Value.pointer (some ⟨gf, 0, none⟩)) hS205 (fun _ _ => r_move) ?_
              refine FWs.take rfl 96 rfl rfl (Value.int .i64 k) hS205 (fun _ _ => r_move) ?_
              refine FWs.take rfl 98 rfl rfl (Value.slice (some ⟨g25, 0, none⟩) x17.length x17.length) hS205 (fun _ _ => r_move) ?_
              refine FWs.take rfl 99 rfl rfl (Value.pointer (some ⟨gf, 0, none⟩)) hS205 (fun _ _ => r_move) ?_
              refine FWs.take rfl 100 rfl rfl (Value.int .i64 k) hS205 (fun _ _ => r_move) ?_
              refine FWs.take rfl 104 rfl rfl (Value.pointer (some ⟨gf, 0, none⟩)) hS205 (fun _ _ => r_move) ?_
              refine FWs.take rfl 105 rfl rfl (Value.int .i64 (max (x65 - 1) (max 0 k))) hS205 (fun _ _ => r_move) ?_
              refine FWs.take rfl 106 rfl rfl (Value.int .i64 k) hS205 (fun _ _ => r_move) ?_
              refine FWs.call rfl 97 rfl rfl 46 #[Value.pointer (some ⟨gf, 0, none⟩), Value.int .i64 k] (r_call2 Try.call46 rfl rfl rfl) ((slot_c hH204 stf_201 hsa_49 hsb_50 hsr_51 (k := k) (by omega) (by omega)).mono ?_)
              rintro _ w207 ⟨rfl, e208⟩
              have hE_209 := hE_199.trans (e208.mono (Nat.le_trans hB0 hE_199.size))
              have hL1_210 := hL1_200.trans (e208.mono (Nat.le_trans hB0 hE_199.size))
              have stf_211 := stf_201.call e208
              have stR_212 := stR_202.call e208
              have ho_213 := ho_203.call e208
              have hH214 := e208.has
              have hS215 := hS205.step e208
              refine ⟨(.inr hS215), ?_⟩
              refine FWs.call rfl 101 rfl rfl 46 #[Value.pointer (some ⟨gf, 0, none⟩), Value.int .i64 k] (r_call2 Try.call46 rfl rfl rfl) ((slot_c hH214 stf_211 hsa_49 hsb_50 hsr_51 (k := k) (by omega) (by omega)).mono ?_)
              rintro _ w216 ⟨rfl, e217⟩
              have hE_218 := hE_209.trans (e217.mono (Nat.le_trans hB0 hE_209.size))
              have hL1_219 := hL1_210.trans (e217.mono (Nat.le_trans hB0 hE_209.size))
              have stf_220 := stf_211.call e217
              have stR_221 := stR_212.call e217
              have ho_222 := ho_213.call e217
              have hH223 := e217.has
              have hS224 := hS215.step e217
              refine ⟨(.inr hS224), ?_⟩
              refine FWs.take rfl 102 rfl rfl (Value.pointer (some ⟨g25, (k + ((b.length : Nat) : Int) + 1).toNat, none⟩)) hS224 (fun _ _ => r_indexAddrI Try.underlying39 Try.sizeOf3 rfl rfl (by omega) (by omega)) ?_
              obtain ⟨x225, hx226⟩ := get_some (xs := row) (j := (k + ((b.length : Nat) : Int) + 1).toNat) (by have := hlR; omega)
              refine FWs.take rfl 103 rfl rfl (Value.int .i64 x225) hS224 (fun _ hS' => r_load1 Try.isAgg3 rfl (hS'.cell stR_202 trivial (ri_at hx226))) ?_
              refine FWs.call rfl 107 rfl rfl 45 #[Value.pointer (some ⟨gf, 0, none⟩), Value.int .i64 (max (x65 - 1) (max 0 k)), Value.int .i64 k] (r_call3 Try.call45 rfl rfl rfl rfl) ((slide_c hH223 stf_220 hsa_49 hsb_50 hsr_51 (x := max (x65 - 1) (max 0 k)) (k := k) (by omega) (by omega) (by omega) (by omega) (by omega)).mono ?_)
              rintro _ w227 ⟨rfl, e228⟩
              have hE_229 := hE_218.trans (e228.mono (Nat.le_trans hB0 hE_218.size))
              have hL1_230 := hL1_219.trans (e228.mono (Nat.le_trans hB0 hE_218.size))
              have stf_231 := stf_220.call e228
              have stR_232 := stR_221.call e228
              have ho_233 := ho_222.call e228
              have hH234 := e228.has
              have hS235 := hS224.step e228
              refine ⟨(.inr hS235), ?_⟩
              refine FWs.val rfl 108 rfl rfl (Value.int .i64 (min x225 (slide a b (max (x65 - 1) (max 0 k)) k))) _ (r_min2 rfl rfl) (.inr hS235) ?_
              refine FWs.val rfl 109 rfl rfl (Value.pointer (some ⟨g25, (k + ((b.length : Nat) : Int) + 1).toNat, none⟩)) _ (r_indexAddrI Try.underlying39 Try.sizeOf3 rfl rfl (by omega) (by omega)) (.inr hS235) ?_
              refine FWs.storeI rfl rfl rfl rfl Try.sizeOf3 stR_232 hH234 rfl rfl (by have := hlR; omega) ?_
              intro w236 m237 stR_238
              have hl239 : (row.set (k + ((b.length : Nat) : Int) + 1).toNat (min x225 (slide a b (max (x65 - 1) (max 0 k)) k))).length = x17.length := by rw [List.length_set]; exact hlR
              have hL1_241 := hL1_230.trans (m237.ext (Nat.le_trans hB0 hE_229.size) (by omega))
              have stf_242 := stf_231.other m237 (stf_231.ne_type stR_232 (by decide))
              have ho_243 := ho_233.mut m237 (ho_233.nbT stR_232 (by decide))
              refine ⟨(.inl rfl), ?_⟩
              refine FWs.nil (hK10 _ _ ?_)
              clear hK10 K10
              refine FW.region rfl ?_
              refine FWl.val 45 rfl rfl (Value.int .i64 k) _ (r_move) ?_
              refine FWl.val 46 rfl rfl (Value.int .i64 (k + 1)) _ (r_addI rfl rfl (by omega) (by omega)) ?_
              refine FWl.val 7 rfl rfl (Value.int .i64 (k + 1)) _ (r_assign) ?_
              refine FWl.nil (thenF_norm (?_))
              refine ⟨_, ⟨C45, k + 1, (row.set (k + ((b.length : Nat) : Int) + 1).toNat (min x225 (slide a b (max (x65 - 1) (max 0 k)) k))), ⟨rfl, rfl, rfl, rfl, rfl, rfl, rfl, rfl, rfl, rfl, rfl, rfl, rfl, rfl, rfl, rfl, rfl, rfl, rfl, rfl, rfl, rfl, rfl, rfl, rfl, rfl, rfl, rfl, rfl, rfl, rfl, rfl, rfl, rfl, rfl, rfl, rfl, trivial⟩, hL1_241, stR_238, hl239, ⟨by omega, by omega⟩, by first | (exfalso; omega) | (rw [show (k + 1 + ((b.length : Nat) : Int)).toNat = (k + ((b.length : Nat) : Int)).toNat + 1 by omega]; exact upRow_set (show k = ((k + ((b.length : Nat) : Int)).toNat : Int) - ((b.length : Nat) : Int) by omega) hrow (cand_eq (v1 := x65) (v2 := x82) (x := max (x65 - 1) (max 0 k)) (by assumption) (by assumption) (x1 := _) (by first | exact .inl ⟨⟨by omega, by omega⟩, rfl⟩ | exact .inr ⟨by omega, rfl⟩) (by first | exact .inl ⟨⟨by omega, by omega⟩, rfl⟩ | exact .inr ⟨by omega, rfl⟩)) (by unfold far; omega) (by assumption)), stf_242, ho_243, rfl⟩, ?_⟩
              omega
            · have hp245 : ¬ ((max (x65 - 1) (max 0 k)) < 1073741824) := of_decide_eq_false hc195
              refine FW.skip (hK10 _ _ ?_)
              clear hK10 K10
              refine FW.region rfl ?_
              refine FWl.val 45 rfl rfl (Value.int .i64 k) _ (r_move) ?_
              refine FWl.val 46 rfl rfl (Value.int .i64 (k + 1)) _ (r_addI rfl rfl (by omega) (by omega)) ?_
              refine FWl.val 7 rfl rfl (Value.int .i64 (k + 1)) _ (r_assign) ?_
              refine FWl.nil (thenF_norm (?_))
              refine ⟨_, ⟨C45, k + 1, row, ⟨rfl, rfl, rfl, rfl, rfl, rfl, rfl, rfl, rfl, rfl, rfl, rfl, rfl, rfl, rfl, rfl, rfl, rfl, rfl, rfl, rfl, rfl, rfl, rfl, rfl, rfl, rfl, rfl, rfl, rfl, rfl, rfl, rfl, rfl, rfl, rfl, rfl, trivial⟩, hL1_77, stR_79, hlR, ⟨by omega, by omega⟩, by first | (exfalso; omega) | (rw [show (k + 1 + ((b.length : Nat) : Int)).toNat = (k + ((b.length : Nat) : Int)).toNat + 1 by omega]; rw [upRow_skip (show k = ((k + ((b.length : Nat) : Int)).toNat : Int) - ((b.length : Nat) : Int) by omega) (cand_eq (v1 := x65) (v2 := x82) (x := max (x65 - 1) (max 0 k)) (by assumption) (by assumption) (x1 := _) (by first | exact .inl ⟨⟨by omega, by omega⟩, rfl⟩ | exact .inr ⟨by omega, rfl⟩) (by first | exact .inl ⟨⟨by omega, by omega⟩, rfl⟩ | exact .inr ⟨by omega, rfl⟩)) (by unfold far; omega)]; exact hrow), stf_78, ho_80, rfl⟩, ?_⟩
              omega
        · have hp246 : ¬ (((max (x65 - 1) (max 0 k)) - k) ≤ ((b.length : Nat) : Int)) := of_decide_eq_false hc72
          refine FW.skip (hK12 _ _ ?_)
          clear hK12 K12
          refine FW.seq_k fun K21 hK21 => ?_
          refine FW.seq_k fun K22 hK22 => ?_
          refine FW.region rfl ?_
          refine FWl.val 70 rfl rfl (Value.slice A22 x17.length c23) _ (r_move) ?_
          refine FWl.val 71 rfl rfl (Value.pointer (some ⟨gf, 0, none⟩)) _ (r_move) ?_
          refine FWl.val 72 rfl rfl (Value.int .i64 k) _ (r_move) ?_
          refine FWl.val 73 rfl rfl (Value.int .i64 (k - 1)) _ (r_subI rfl rfl (by omega) (by omega)) ?_
          refine FWl.call 74 rfl rfl 46 #[Value.pointer (some ⟨gf, 0, none⟩), Value.int .i64 (k - 1)] (r_call2 Try.call46 rfl rfl rfl) ((slot_c hH64 stf_61 hsa_49 hsb_50 hsr_51 (k := k - 1) (by omega) (by omega)).mono ?_)
          rintro _ w247 ⟨rfl, e248⟩
          have hE_249 := hE_59.trans (e248.mono (Nat.le_trans hB0 hE_59.size))
          have hL1_250 := hL1_60.trans (e248.mono (Nat.le_trans hB0 hE_59.size))
          have stf_251 := stf_61.call e248
          have stR_252 := stR_62.call e248
          have ho_253 := ho_63.call e248
          have hH254 := e248.has
          obtain ⟨x255, hx256⟩ := get_some (xs := x17) (j := ((k - 1) + ((b.length : Nat) : Int) + 1).toNat) (by omega)
          obtain ⟨cs257, hr258, hg259⟩ := hs24_53.at_ _ _ hx256
          obtain rfl := hr258
          have hvv := hval _ hxm _ (List.mem_of_getElem? hx256)
          refine FWl.val 75 rfl rfl (ptrAt A22 (((k - 1) + ((b.length : Nat) : Int) + 1).toNat * 1)) _ (r_indexAddr Try.underlying39 Try.sizeOf3 rfl rfl (hs24_53.isSome (by omega)) (by omega) (by omega)) ?_
          refine FWl.val 76 rfl rfl (Value.int .i64 x255) _ (r_loadG1 (i := 0) Try.isAgg3 hg259 rfl rfl hH254) ?_
          refine FWl.val 77 rfl rfl (Value.int .i64 (max 0 k)) _ (r_move) ?_
          refine FWl.val 78 rfl rfl (Value.int .i64 (max x255 (max 0 k))) _ (r_max2 rfl rfl) ?_
          refine FWl.val 11 rfl rfl (Value.int .i64 (max x255 (max 0 k))) _ (r_assign) ?_
          refine FWl.nil (hK22 _ _ ?_)
          clear hK22 K22
          refine FW.seq_k fun K23 hK23 => ?_
          refine FW.region rfl ?_
          refine FWl.val 79 rfl rfl (Value.int .i64 (max x255 (max 0 k))) _ (r_move) ?_
          refine FWl.val 80 rfl rfl (Value.int .i64 ((a.length : Nat) : Int)) _ (r_move) ?_
          refine FWl.val 81 rfl rfl (Value.bool (decide ((max x255 (max 0 k)) ≤ ((a.length : Nat) : Int)))) _ (r_leq rfl rfl) ?_
          refine FWl.val 82 rfl rfl (Value.bool (decide ((max x255 (max 0 k)) ≤ ((a.length : Nat) : Int)))) _ (r_move) ?_
          cases hb260 : (decide ((max x255 (max 0 k)) ≤ ((a.length : Nat) : Int))) with
          | true =>
            have hp261 : (max x255 (max 0 k)) ≤ ((a.length : Nat) : Int) := of_decide_eq_true hb260
            refine FWl.val 83 rfl rfl (Value.int .i64 (max x255 (max 0 k))) _ (r_move) ?_
            refine FWl.val 84 rfl rfl (Value.int .i64 k) _ (r_move) ?_
            refine FWl.val 85 rfl rfl (Value.int .i64 ((max x255 (max 0 k)) - k)) _ (r_subI rfl rfl (by omega) (by omega)) ?_
            refine FWl.val 86 rfl rfl (Value.int .i64 ((b.length : Nat) : Int)) _ (r_move) ?_
            refine FWl.val 87 rfl rfl (Value.bool (decide (((max x255 (max 0 k)) - k) < ((b.length : Nat) : Int)))) _ (r_lss rfl rfl) ?_
            refine FWl.val 88 rfl rfl (Value.bool (decide (((max x255 (max 0 k)) - k) < ((b.length : Nat) : Int)))) _ (r_pick (t := true) rfl) ?_
            refine FWl.nil (hK23 _ _ ?_)
            clear hK23 K23
            refine FW.cond (decide (((max x255 (max 0 k)) - k) < ((b.length : Nat) : Int))) rfl (fun hc262 => ?_) (fun hc262 => ?_)
            · have hp263 : ((max x255 (max 0 k)) - k) < ((b.length : Nat) : Int) := of_decide_eq_true hc262
              refine FW.region rfl ?_
              refine FWl.val 89 rfl rfl (Value.int .i64 1073741824) _ (r_move) ?_
              refine FWl.val 90 rfl rfl (Value.int .i64 (max x255 (max 0 k))) _ (r_move) ?_
              refine FWl.val 91 rfl rfl (Value.int .i64 (min 1073741824 (max x255 (max 0 k)))) _ (r_min2 rfl rfl) ?_
              refine FWl.val 8 rfl rfl (Value.int .i64 (min 1073741824 (max x255 (max 0 k)))) _ (r_assign) ?_
              refine FWl.nil (hK21 _ _ ?_)
              clear hK21 K21
              refine FW.seq_k fun K24 hK24 => ?_
              refine FW.region rfl ?_
              refine FWl.val 92 rfl rfl (Value.int .i64 (min 1073741824 (max x255 (max 0 k)))) _ (r_move) ?_
              refine FWl.val 93 rfl rfl (Value.bool (decide ((min 1073741824 (max x255 (max 0 k))) < 1073741824))) _ (r_lss rfl rfl) ?_
              refine FWl.nil (hK24 _ _ ?_)
              clear hK24 K24
              refine FW.cond (decide ((min 1073741824 (max x255 (max 0 k))) < 1073741824)) rfl (fun hc264 => ?_) (fun hc264 => ?_)
              · have hp265 : (min 1073741824 (max x255 (max 0 k))) < 1073741824 := of_decide_eq_true hc264
                refine FW.regionDraw mixed (SS C45 (fun _ => True) w247.drew) [16] [(0, true), (1, true), (2, true), (4, true), (5, true), (6, true), (10, true), (11, true), (12, true), (3, false), (7, false), (8, true), (9, true), (13, false), (14, false), (15, false), (16, false)] rfl (by kernel_rfl) ?_
                have e267 : Ext w247.heap.size w247 C45 w247.drew C45 := (Ext.refl hH254).drew
                generalize w247.drew = w266 at *
                have hE_268 := hE_249.trans (e267.mono (Nat.le_trans hB0 hE_249.size))
                have hL1_269 := hL1_250.trans (e267.mono (Nat.le_trans hB0 hE_249.size))
                have stf_270 := stf_251.call e267
                have stR_271 := stR_252.call e267
                have ho_272 := ho_253.call e267
                have hH273 := e267.has
                have hS274 : SS C45 (fun _ => True) w266 w266 := SS.refl hH273
                have hle275 := Gle.refl C45
                refine FWs.take rfl 94 rfl rfl (Value.slice (some ⟨g25, 0, none⟩) x17.length x17.length) hS274 (fun _ _ => r_move) ?_
                refine FWs.take rfl 95 rfl rfl (Value.pointer (some ⟨gf, 0, none⟩)) hS274 (fun _ _ => r_move) ?_
                refine FWs.take rfl 96 rfl rfl (Value.int .i64 k) hS274 (fun _ _ => r_move) ?_
                refine FWs.take rfl 98 rfl rfl (Value.slice (some ⟨g25, 0, none⟩) x17.length x17.length) hS274 (fun _ _ => r_move) ?_
                refine FWs.take rfl 99 rfl rfl (Value.pointer (some ⟨gf, 0, none⟩)) hS274 (fun _ _ => r_move) ?_
                refine FWs.take rfl 100 rfl rfl (Value.int .i64 k) hS274 (fun _ _ => r_move) ?_
                refine FWs.take rfl 104 rfl rfl (Value.pointer (some ⟨gf, 0, none⟩)) hS274 (fun _ _ => r_move) ?_
                refine FWs.take rfl 105 rfl rfl (Value.int .i64 (min 1073741824 (max x255 (max 0 k)))) hS274 (fun _ _ => r_move) ?_
                refine FWs.take rfl 106 rfl rfl (Value.int .i64 k) hS274 (fun _ _ => r_move) ?_
                refine FWs.call rfl 97 rfl rfl 46 #[Value.pointer (some ⟨gf, 0, none⟩), Value.int .i64 k] (r_call2 Try.call46 rfl rfl rfl) ((slot_c hH273 stf_270 hsa_49 hsb_50 hsr_51 (k := k) (by omega) (by omega)).mono ?_)
                rintro _ w276 ⟨rfl, e277⟩
                have hE_278 := hE_268.trans (e277.mono (Nat.le_trans hB0 hE_268.size))
                have hL1_279 := hL1_269.trans (e277.mono (Nat.le_trans hB0 hE_268.size))
                have stf_280 := stf_270.call e277
                have stR_281 := stR_271.call e277
                have ho_282 := ho_272.call e277
                have hH283 := e277.has
                have hS284 := hS274.step e277
                refine ⟨(.inr hS284), ?_⟩
                refine FWs.call rfl 101 rfl rfl 46 #[Value.pointer (some ⟨gf, 0, none⟩), Value.int .i64 k] (r_call2 Try.call46 rfl rfl rfl) ((slot_c hH283 stf_280 hsa_49 hsb_50 hsr_51 (k := k) (by omega) (by omega)).mono ?_)
                rintro _ w285 ⟨rfl, e286⟩
                have hE_287 := hE_278.trans (e286.mono (Nat.le_trans hB0 hE_278.size))
                have hL1_288 := hL1_279.trans (e286.mono (Nat.le_trans hB0 hE_278.size))
                have stf_289 := stf_280.call e286
                have stR_290 := stR_281.call e286
                have ho_291 := ho_282.call e286
                have hH292 := e286.has
                have hS293 := hS284.step e286
                refine ⟨(.inr hS293), ?_⟩
                refine FWs.take rfl 102 rfl rfl (Value.pointer (some ⟨g25, (k + ((b.length : Nat) : Int) + 1).toNat, none⟩)) hS293 (fun _ _ => r_indexAddrI Try.underlying39 Try.sizeOf3 rfl rfl (by omega) (by omega)) ?_
                obtain ⟨x294, hx295⟩ := get_some (xs := row) (j := (k + ((b.length : Nat) : Int) + 1).toNat) (by have := hlR; omega)
                refine FWs.take rfl 103 rfl rfl (Value.int .i64 x294) hS293 (fun _ hS' => r_load1 Try.isAgg3 rfl (hS'.cell stR_271 trivial (ri_at hx295))) ?_
                refine FWs.call rfl 107 rfl rfl 45 #[Value.pointer (some ⟨gf, 0, none⟩), Value.int .i64 (min 1073741824 (max x255 (max 0 k))), Value.int .i64 k] (r_call3 Try.call45 rfl rfl rfl rfl) ((slide_c hH292 stf_289 hsa_49 hsb_50 hsr_51 (x := min 1073741824 (max x255 (max 0 k))) (k := k) (by omega) (by omega) (by omega) (by omega) (by omega)).mono ?_)
                rintro _ w296 ⟨rfl, e297⟩
                have hE_298 := hE_287.trans (e297.mono (Nat.le_trans hB0 hE_287.size))
                have hL1_299 := hL1_288.trans (e297.mono (Nat.le_trans hB0 hE_287.size))
                have stf_300 := stf_289.call e297
                have stR_301 := stR_290.call e297
                have ho_302 := ho_291.call e297
                have hH303 := e297.has
                have hS304 := hS293.step e297
                refine ⟨(.inr hS304), ?_⟩
                refine FWs.val rfl 108 rfl rfl (Value.int .i64 (min x294 (slide a b (min 1073741824 (max x255 (max 0 k))) k))) _ (r_min2 rfl rfl) (.inr hS304) ?_
                refine FWs.val rfl 109 rfl rfl (Value.pointer (some ⟨g25, (k + ((b.length : Nat) : Int) + 1).toNat, none⟩)) _ (r_indexAddrI Try.underlying39 Try.sizeOf3 rfl rfl (by omega) (by omega)) (.inr hS304) ?_
                refine FWs.storeI rfl rfl rfl rfl Try.sizeOf3 stR_301 hH303 rfl rfl (by have := hlR; omega) ?_
                intro w305 m306 stR_307
                have hl308 : (row.set (k + ((b.length : Nat) : Int) + 1).toNat (min x294 (slide a b (min 1073741824 (max x255 (max 0 k))) k))).length = x17.length := by rw [List.length_set]; exact hlR
                have hL1_310 := hL1_299.trans (m306.ext (Nat.le_trans hB0 hE_298.size) (by omega))
                have stf_311 := stf_300.other m306 (stf_300.ne_type stR_301 (by decide))
                have ho_312 := ho_302.mut m306 (ho_302.nbT stR_301 (by decide))
                refine ⟨(.inl rfl), ?_⟩
                refine FWs.nil (hK10 _ _ ?_)
                clear hK10 K10
                refine FW.region rfl ?_
                refine FWl.val 45 rfl rfl (Value.int .i64 k) _ (r_move) ?_
                refine FWl.val 46 rfl rfl (Value.int .i64 (k + 1)) _ (r_addI rfl rfl (by omega) (by omega)) ?_
                refine FWl.val 7 rfl rfl (Value.int .i64 (k + 1)) _ (r_assign) ?_
                refine FWl.nil (thenF_norm (?_))
                refine ⟨_, ⟨C45, k + 1, (row.set (k + ((b.length : Nat) : Int) + 1).toNat (min x294 (slide a b (min 1073741824 (max x255 (max 0 k))) k))), ⟨rfl, rfl, rfl, rfl, rfl, rfl, rfl, rfl, rfl, rfl, rfl, rfl, rfl, rfl, rfl, rfl, rfl, rfl, rfl, rfl, rfl, rfl, rfl, rfl, rfl, rfl, rfl, rfl, rfl, rfl, rfl, rfl, rfl, rfl, rfl, rfl, rfl, trivial⟩, hL1_310, stR_307, hl308, ⟨by omega, by omega⟩, by first | (exfalso; omega) | (rw [show (k + 1 + ((b.length : Nat) : Int)).toNat = (k + ((b.length : Nat) : Int)).toNat + 1 by omega]; exact upRow_set (show k = ((k + ((b.length : Nat) : Int)).toNat : Int) - ((b.length : Nat) : Int) by omega) hrow (cand_eq (v1 := x65) (v2 := x255) (x := min 1073741824 (max x255 (max 0 k))) (by assumption) (by assumption) (x1 := _) (by first | exact .inl ⟨⟨by omega, by omega⟩, rfl⟩ | exact .inr ⟨by omega, rfl⟩) (by first | exact .inl ⟨⟨by omega, by omega⟩, rfl⟩ | exact .inr ⟨by omega, rfl⟩)) (by unfold far; omega) (by assumption)), stf_311, ho_312, rfl⟩, ?_⟩
                omega
              · have hp314 : ¬ ((min 1073741824 (max x255 (max 0 k))) < 1073741824) := of_decide_eq_false hc264
                refine FW.skip (hK10 _ _ ?_)
                clear hK10 K10
                refine FW.region rfl ?_
                refine FWl.val 45 rfl rfl (Value.int .i64 k) _ (r_move) ?_
                refine FWl.val 46 rfl rfl (Value.int .i64 (k + 1)) _ (r_addI rfl rfl (by omega) (by omega)) ?_
                refine FWl.val 7 rfl rfl (Value.int .i64 (k + 1)) _ (r_assign) ?_
                refine FWl.nil (thenF_norm (?_))
                refine ⟨_, ⟨C45, k + 1, row, ⟨rfl, rfl, rfl, rfl, rfl, rfl, rfl, rfl, rfl, rfl, rfl, rfl, rfl, rfl, rfl, rfl, rfl, rfl, rfl, rfl, rfl, rfl, rfl, rfl, rfl, rfl, rfl, rfl, rfl, rfl, rfl, rfl, rfl, rfl, rfl, rfl, rfl, trivial⟩, hL1_250, stR_252, hlR, ⟨by omega, by omega⟩, by first | (exfalso; omega) | (rw [show (k + 1 + ((b.length : Nat) : Int)).toNat = (k + ((b.length : Nat) : Int)).toNat + 1 by omega]; rw [upRow_skip (show k = ((k + ((b.length : Nat) : Int)).toNat : Int) - ((b.length : Nat) : Int) by omega) (cand_eq (v1 := x65) (v2 := x255) (x := min 1073741824 (max x255 (max 0 k))) (by assumption) (by assumption) (x1 := _) (by first | exact .inl ⟨⟨by omega, by omega⟩, rfl⟩ | exact .inr ⟨by omega, rfl⟩) (by first | exact .inl ⟨⟨by omega, by omega⟩, rfl⟩ | exact .inr ⟨by omega, rfl⟩)) (by unfold far; omega)]; exact hrow), stf_251, ho_253, rfl⟩, ?_⟩
                omega
            · have hp315 : ¬ (((max x255 (max 0 k)) - k) < ((b.length : Nat) : Int)) := of_decide_eq_false hc262
              refine FW.skip (hK21 _ _ ?_)
              clear hK21 K21
              refine FW.seq_k fun K25 hK25 => ?_
              refine FW.region rfl ?_
              refine FWl.val 92 rfl rfl (Value.int .i64 1073741824) _ (r_move) ?_
              refine FWl.val 93 rfl rfl (Value.bool false) _ (r_lss (a := 1073741824) (b := 1073741824) rfl rfl) ?_
              refine FWl.nil (hK25 _ _ ?_)
              clear hK25 K25
              refine FW.cond false rfl (fun h => nomatch h) (fun _ => ?_)
              refine FW.skip (hK10 _ _ ?_)
              clear hK10 K10
              refine FW.region rfl ?_
              refine FWl.val 45 rfl rfl (Value.int .i64 k) _ (r_move) ?_
              refine FWl.val 46 rfl rfl (Value.int .i64 (k + 1)) _ (r_addI rfl rfl (by omega) (by omega)) ?_
              refine FWl.val 7 rfl rfl (Value.int .i64 (k + 1)) _ (r_assign) ?_
              refine FWl.nil (thenF_norm (?_))
              refine ⟨_, ⟨C45, k + 1, row, ⟨rfl, rfl, rfl, rfl, rfl, rfl, rfl, rfl, rfl, rfl, rfl, rfl, rfl, rfl, rfl, rfl, rfl, rfl, rfl, rfl, rfl, rfl, rfl, rfl, rfl, rfl, rfl, rfl, rfl, rfl, rfl, rfl, rfl, rfl, rfl, rfl, rfl, trivial⟩, hL1_250, stR_252, hlR, ⟨by omega, by omega⟩, by first | (exfalso; omega) | (rw [show (k + 1 + ((b.length : Nat) : Int)).toNat = (k + ((b.length : Nat) : Int)).toNat + 1 by omega]; rw [upRow_skip (show k = ((k + ((b.length : Nat) : Int)).toNat : Int) - ((b.length : Nat) : Int) by omega) (cand_eq (v1 := x65) (v2 := x255) (x := 1073741824) (by assumption) (by assumption) (x1 := _) (by first | exact .inl ⟨⟨by omega, by omega⟩, rfl⟩ | exact .inr ⟨by omega, rfl⟩) (by first | exact .inl ⟨⟨by omega, by omega⟩, rfl⟩ | exact .inr ⟨by omega, rfl⟩)) (by unfold far; omega)]; exact hrow), stf_251, ho_253, rfl⟩, ?_⟩
              omega
          | false =>
            have hp316 : ¬ ((max x255 (max 0 k)) ≤ ((a.length : Nat) : Int)) := of_decide_eq_false hb260
            refine FWl.skip 83 rfl rfl ?_
            refine FWl.skip 84 rfl rfl ?_
            refine FWl.skip 85 rfl rfl ?_
            refine FWl.skip 86 rfl rfl ?_
            refine FWl.skip 87 rfl rfl ?_
            refine FWl.val 88 rfl rfl (Value.bool false) _ (r_pick (t := false) rfl) ?_
            refine FWl.nil (hK23 _ _ ?_)
            clear hK23 K23
            refine FW.cond false rfl (fun h => nomatch h) (fun _ => ?_)
            refine FW.skip (hK21 _ _ ?_)
            clear hK21 K21
            refine FW.seq_k fun K26 hK26 => ?_
            refine FW.region rfl ?_
            refine FWl.val 92 rfl rfl (Value.int .i64 1073741824) _ (r_move) ?_
            refine FWl.val 93 rfl rfl (Value.bool false) _ (r_lss (a := 1073741824) (b := 1073741824) rfl rfl) ?_
            refine FWl.nil (hK26 _ _ ?_)
            clear hK26 K26
            refine FW.cond false rfl (fun h => nomatch h) (fun _ => ?_)
            refine FW.skip (hK10 _ _ ?_)
            clear hK10 K10
            refine FW.region rfl ?_
            refine FWl.val 45 rfl rfl (Value.int .i64 k) _ (r_move) ?_
            refine FWl.val 46 rfl rfl (Value.int .i64 (k + 1)) _ (r_addI rfl rfl (by omega) (by omega)) ?_
            refine FWl.val 7 rfl rfl (Value.int .i64 (k + 1)) _ (r_assign) ?_
            refine FWl.nil (thenF_norm (?_))
            refine ⟨_, ⟨C45, k + 1, row, ⟨rfl, rfl, rfl, rfl, rfl, rfl, rfl, rfl, rfl, rfl, rfl, rfl, rfl, rfl, rfl, rfl, rfl, rfl, rfl, rfl, rfl, rfl, rfl, rfl, rfl, rfl, rfl, rfl, rfl, rfl, rfl, rfl, rfl, rfl, rfl, rfl, rfl, trivial⟩, hL1_250, stR_252, hlR, ⟨by omega, by omega⟩, by first | (exfalso; omega) | (rw [show (k + 1 + ((b.length : Nat) : Int)).toNat = (k + ((b.length : Nat) : Int)).toNat + 1 by omega]; rw [upRow_skip (show k = ((k + ((b.length : Nat) : Int)).toNat : Int) - ((b.length : Nat) : Int) by omega) (cand_eq (v1 := x65) (v2 := x255) (x := 1073741824) (by assumption) (by assumption) (x1 := _) (by first | exact .inl ⟨⟨by omega, by omega⟩, rfl⟩ | exact .inr ⟨by omega, rfl⟩) (by first | exact .inl ⟨⟨by omega, by omega⟩, rfl⟩ | exact .inr ⟨by omega, rfl⟩)) (by unfold far; omega)]; exact hrow), stf_251, ho_253, rfl⟩, ?_⟩
            omega
      | false =>
        have hp317 : ¬ ((max (x65 - 1) (max 0 k)) < ((a.length : Nat) : Int)) := of_decide_eq_false hb70
        refine FWl.skip 63 rfl rfl ?_
        refine FWl.skip 64 rfl rfl ?_
        refine FWl.skip 65 rfl rfl ?_
        refine FWl.skip 66 rfl rfl ?_
        refine FWl.skip 67 rfl rfl ?_
        refine FWl.val 68 rfl rfl (Value.bool false) _ (r_pick (t := false) rfl) ?_
        refine FWl.nil (hK14 _ _ ?_)
        clear hK14 K14
        refine FW.cond false rfl (fun h => nomatch h) (fun _ => ?_)
        refine FW.skip (hK12 _ _ ?_)
        clear hK12 K12
        refine FW.seq_k fun K27 hK27 => ?_
        refine FW.seq_k fun K28 hK28 => ?_
        refine FW.region rfl ?_
        refine FWl.val 70 rfl rfl (Value.slice A22 x17.length c23) _ (r_move) ?_
        refine FWl.val 71 rfl rfl (Value.pointer (some ⟨gf, 0, none⟩)) _ (r_move) ?_
        refine FWl.val 72 rfl rfl (Value.int .i64 k) _ (r_move) ?_
        refine FWl.val 73 rfl rfl (Value.int .i64 (k - 1)) _ (r_subI rfl rfl (by omega) (by omega)) ?_
        refine FWl.call 74 rfl rfl 46 #[Value.pointer (some ⟨gf, 0, none⟩), Value.int .i64 (k - 1)] (r_call2 Try.call46 rfl rfl rfl) ((slot_c hH64 stf_61 hsa_49 hsb_50 hsr_51 (k := k - 1) (by omega) (by omega)).mono ?_)
        rintro _ w318 ⟨rfl, e319⟩
        have hE_320 := hE_59.trans (e319.mono (Nat.le_trans hB0 hE_59.size))
        have hL1_321 := hL1_60.trans (e319.mono (Nat.le_trans hB0 hE_59.size))
        have stf_322 := stf_61.call e319
        have stR_323 := stR_62.call e319
        have ho_324 := ho_63.call e319
        have hH325 := e319.has
        obtain ⟨x326, hx327⟩ := get_some (xs := x17) (j := ((k - 1) + ((b.length : Nat) : Int) + 1).toNat) (by omega)
        obtain ⟨cs328, hr329, hg330⟩ := hs24_53.at_ _ _ hx327
        obtain rfl := hr329
        have hvv := hval _ hxm _ (List.mem_of_getElem? hx327)
        refine FWl.val 75 rfl rfl (ptrAt A22 (((k - 1) + ((b.length : Nat) : Int) + 1).toNat * 1)) _ (r_indexAddr Try.underlying39 Try.sizeOf3 rfl rfl (hs24_53.isSome (by omega)) (by omega) (by omega)) ?_
        refine FWl.val 76 rfl rfl (Value.int .i64 x326) _ (r_loadG1 (i := 0) Try.isAgg3 hg330 rfl rfl hH325) ?_
        refine FWl.val 77 rfl rfl (Value.int .i64 (max 0 k)) _ (r_move) ?_
        refine FWl.val 78 rfl rfl (Value.int .i64 (max x326 (max 0 k))) _ (r_max2 rfl rfl) ?_
        refine FWl.val 11 rfl rfl (Value.int .i64 (max x326 (max 0 k))) _ (r_assign) ?_
        refine FWl.nil (hK28 _ _ ?_)
        clear hK28 K28
        refine FW.seq_k fun K29 hK29 => ?_
        refine FW.region rfl ?_
        refine FWl.val 79 rfl rfl (Value.int .i64 (max x326 (max 0 k))) _ (r_move) ?_
        refine FWl.val 80 rfl rfl (Value.int .i64 ((a.length : Nat) : Int)) _ (r_move) ?_
        refine FWl.val 81 rfl rfl (Value.bool (decide ((max x326 (max 0 k)) ≤ ((a.length : Nat) : Int)))) _ (r_leq rfl rfl) ?_
        refine FWl.val 82 rfl rfl (Value.bool (decide ((max x326 (max 0 k)) ≤ ((a.length : Nat) : Int)))) _ (r_move) ?_
        cases hb331 : (decide ((max x326 (max 0 k)) ≤ ((a.length : Nat) : Int))) with
        | true =>
          have hp332 : (max x326 (max 0 k)) ≤ ((a.length : Nat) : Int) := of_decide_eq_true hb331
          refine FWl.val 83 rfl rfl (Value.int .i64 (max x326 (max 0 k))) _ (r_move) ?_
          refine FWl.val 84 rfl rfl (Value.int .i64 k) _ (r_move) ?_
          refine FWl.val 85 rfl rfl (Value.int .i64 ((max x326 (max 0 k)) - k)) _ (r_subI rfl rfl (by omega) (by omega)) ?_
          refine FWl.val 86 rfl rfl (Value.int .i64 ((b.length : Nat) : Int)) _ (r_move) ?_
          refine FWl.val 87 rfl rfl (Value.bool (decide (((max x326 (max 0 k)) - k) < ((b.length : Nat) : Int)))) _ (r_lss rfl rfl) ?_
          refine FWl.val 88 rfl rfl (Value.bool (decide (((max x326 (max 0 k)) - k) < ((b.length : Nat) : Int)))) _ (r_pick (t := true) rfl) ?_
          refine FWl.nil (hK29 _ _ ?_)
          clear hK29 K29
          refine FW.cond (decide (((max x326 (max 0 k)) - k) < ((b.length : Nat) : Int))) rfl (fun hc333 => ?_) (fun hc333 => ?_)
          · have hp334 : ((max x326 (max 0 k)) - k) < ((b.length : Nat) : Int) := of_decide_eq_true hc333
            refine FW.region rfl ?_
            refine FWl.val 89 rfl rfl (Value.int .i64 1073741824) _ (r_move) ?_
            refine FWl.val 90 rfl rfl (Value.int .i64 (max x326 (max 0 k))) _ (r_move) ?_
            refine FWl.val 91 rfl rfl (Value.int .i64 (min 1073741824 (max x326 (max 0 k)))) _ (r_min2 rfl rfl) ?_
            refine FWl.val 8 rfl rfl (Value.int .i64 (min 1073741824 (max x326 (max 0 k)))) _ (r_assign) ?_
            refine FWl.nil (hK27 _ _ ?_)
            clear hK27 K27
            refine FW.seq_k fun K30 hK30 => ?_
            refine FW.region rfl ?_
            refine FWl.val 92 rfl rfl (Value.int .i64 (min 1073741824 (max x326 (max 0 k)))) _ (r_move) ?_
            refine FWl.val 93 rfl rfl (Value.bool (decide ((min 1073741824 (max x326 (max 0 k))) < 1073741824))) _ (r_lss rfl rfl) ?_
            refine FWl.nil (hK30 _ _ ?_)
            clear hK30 K30
            refine FW.cond (decide ((min 1073741824 (max x326 (max 0 k))) < 1073741824)) rfl (fun hc335 => ?_) (fun hc335 => ?_)
            · have hp336 : (min 1073741824 (max x326 (max 0 k))) < 1073741824 := of_decide_eq_true hc335
              refine FW.regionDraw mixed (SS C45 (fun _ => True) w318.drew) [16] [(0, true), (1, true), (2, true), (4, true), (5, true), (6, true), (10, true), (11, true), (12, true), (3, false), (7, false), (8, true), (9, true), (13, false), (14, false), (15, false), (16, false)] rfl (by kernel_rfl) ?_
              have e338 : Ext w318.heap.size w318 C45 w318.drew C45 := (Ext.refl hH325).drew
              generalize w318.drew = w337 at *
              have hE_339 := hE_320.trans (e338.mono (Nat.le_trans hB0 hE_320.size))
              have hL1_340 := hL1_321.trans (e338.mono (Nat.le_trans hB0 hE_320.size))
              have stf_341 := stf_322.call e338
              have stR_342 := stR_323.call e338
              have ho_343 := ho_324.call e338
              have hH344 := e338.has
              have hS345 : SS C45 (fun _ => True) w337 w337 := SS.refl hH344
              have hle346 := Gle.refl C45
              refine FWs.take rfl 94 rfl rfl (Value.slice (some ⟨g25, 0, none⟩) x17.length x17.length) hS345 (fun _ _ => r_move) ?_
              refine FWs.take rfl 95 rfl rfl (Value.pointer (some ⟨gf, 0, none⟩)) hS345 (fun _ _ => r_move) ?_
              refine FWs.take rfl 96 rfl rfl (Value.int .i64 k) hS345 (fun _ _ => r_move) ?_
              refine FWs.take rfl 98 rfl rfl (Value.slice (some ⟨g25, 0, none⟩) x17.length x17.length) hS345 (fun _ _ => r_move) ?_
              refine FWs.take rfl 99 rfl rfl (Value.pointer (some ⟨gf, 0, none⟩)) hS345 (fun _ _ => r_move) ?_
              refine FWs.take rfl 100 rfl rfl (Value.int .i64 k) hS345 (fun _ _ => r_move) ?_
              refine FWs.take rfl 104 rfl rfl (Value.pointer (some ⟨gf, 0, none⟩)) hS345 (fun _ _ => r_move) ?_
              refine FWs.take rfl 105 rfl rfl (Value.int .i64 (min 1073741824 (max x326 (max 0 k)))) hS345 (fun _ _ => r_move) ?_
              refine FWs.take rfl 106 rfl rfl (Value.int .i64 k) hS345 (fun _ _ => r_move) ?_
              refine FWs.call rfl 97 rfl rfl 46 #[Value.pointer (some ⟨gf, 0, none⟩), Value.int .i64 k] (r_call2 Try.call46 rfl rfl rfl) ((slot_c hH344 stf_341 hsa_49 hsb_50 hsr_51 (k := k) (by omega) (by omega)).mono ?_)
              rintro _ w347 ⟨rfl, e348⟩
              have hE_349 := hE_339.trans (e348.mono (Nat.le_trans hB0 hE_339.size))
              have hL1_350 := hL1_340.trans (e348.mono (Nat.le_trans hB0 hE_339.size))
              have stf_351 := stf_341.call e348
              have stR_352 := stR_342.call e348
              have ho_353 := ho_343.call e348
              have hH354 := e348.has
              have hS355 := hS345.step e348
              refine ⟨(.inr hS355), ?_⟩
              refine FWs.call rfl 101 rfl rfl 46 #[Value.pointer (some ⟨gf, 0, none⟩), Value.int .i64 k] (r_call2 Try.call46 rfl rfl rfl) ((slot_c hH354 stf_351 hsa_49 hsb_50 hsr_51 (k := k) (by omega) (by omega)).mono ?_)
              rintro _ w356 ⟨rfl, e357⟩
              have hE_358 := hE_349.trans (e357.mono (Nat.le_trans hB0 hE_349.size))
              have hL1_359 := hL1_350.trans (e357.mono (Nat.le_trans hB0 hE_349.size))
              have stf_360 := stf_351.call e357
              have stR_361 := stR_352.call e357
              have ho_362 := ho_353.call e357
              have hH363 := e357.has
              have hS364 := hS355.step e357
              refine ⟨(.inr hS364), ?_⟩
              refine FWs.take rfl 102 rfl rfl (Value.pointer (some ⟨g25, (k + ((b.length : Nat) : Int) + 1).toNat, none⟩)) hS364 (fun _ _ => r_indexAddrI Try.underlying39 Try.sizeOf3 rfl rfl (by omega) (by omega)) ?_
              obtain ⟨x365, hx366⟩ := get_some (xs := row) (j := (k + ((b.length : Nat) : Int) + 1).toNat) (by have := hlR; omega)
              refine FWs.take rfl 103 rfl rfl (Value.int .i64 x365) hS364 (fun _ hS' => r_load1 Try.isAgg3 rfl (hS'.cell stR_342 trivial (ri_at hx366))) ?_
              refine FWs.call rfl 107 rfl rfl 45 #[Value.pointer (some ⟨gf, 0, none⟩), Value.int .i64 (min 1073741824 (max x326 (max 0 k))), Value.int .i64 k] (r_call3 Try.call45 rfl rfl rfl rfl) ((slide_c hH363 stf_360 hsa_49 hsb_50 hsr_51 (x := min 1073741824 (max x326 (max 0 k))) (k := k) (by omega) (by omega) (by omega) (by omega) (by omega)).mono ?_)
              rintro _ w367 ⟨rfl, e368⟩
              have hE_369 := hE_358.trans (e368.mono (Nat.le_trans hB0 hE_358.size))
              have hL1_370 := hL1_359.trans (e368.mono (Nat.le_trans hB0 hE_358.size))
              have stf_371 := stf_360.call e368
              have stR_372 := stR_361.call e368
              have ho_373 := ho_362.call e368
              have hH374 := e368.has
              have hS375 := hS364.step e368
              refine ⟨(.inr hS375), ?_⟩
              refine FWs.val rfl 108 rfl rfl (Value.int .i64 (min x365 (slide a b (min 1073741824 (max x326 (max 0 k))) k))) _ (r_min2 rfl rfl) (.inr hS375) ?_
              refine FWs.val rfl 109 rfl rfl (Value.pointer (some ⟨g25, (k + ((b.length : Nat) : Int) + 1).toNat, none⟩)) _ (r_indexAddrI Try.underlying39 Try.sizeOf3 rfl rfl (by omega) (by omega)) (.inr hS375) ?_
              refine FWs.storeI rfl rfl rfl rfl Try.sizeOf3 stR_372 hH374 rfl rfl (by have := hlR; omega) ?_
              intro w376 m377 stR_378
              have hl379 : (row.set (k + ((b.length : Nat) : Int) + 1).toNat (min x365 (slide a b (min 1073741824 (max x326 (max 0 k))) k))).length = x17.length := by rw [List.length_set]; exact hlR
              have hL1_381 := hL1_370.trans (m377.ext (Nat.le_trans hB0 hE_369.size) (by omega))
              have stf_382 := stf_371.other m377 (stf_371.ne_type stR_372 (by decide))
              have ho_383 := ho_373.mut m377 (ho_373.nbT stR_372 (by decide))
              refine ⟨(.inl rfl), ?_⟩
              refine FWs.nil (hK10 _ _ ?_)
              clear hK10 K10
              refine FW.region rfl ?_
              refine FWl.val 45 rfl rfl (Value.int .i64 k) _ (r_move) ?_
              refine FWl.val 46 rfl rfl (Value.int .i64 (k + 1)) _ (r_addI rfl rfl (by omega) (by omega)) ?_
              refine FWl.val 7 rfl rfl (Value.int .i64 (k + 1)) _ (r_assign) ?_
              refine FWl.nil (thenF_norm (?_))
              refine ⟨_, ⟨C45, k + 1, (row.set (k + ((b.length : Nat) : Int) + 1).toNat (min x365 (slide a b (min 1073741824 (max x326 (max 0 k))) k))), ⟨rfl, rfl, rfl, rfl, rfl, rfl, rfl, rfl, rfl, rfl, rfl, rfl, rfl, rfl, rfl, rfl, rfl, rfl, rfl, rfl, rfl, rfl, rfl, rfl, rfl, rfl, rfl, rfl, rfl, rfl, rfl, rfl, rfl, rfl, rfl, rfl, rfl, trivial⟩, hL1_381, stR_378, hl379, ⟨by omega, by omega⟩, by first | (exfalso; omega) | (rw [show (k + 1 + ((b.length : Nat) : Int)).toNat = (k + ((b.length : Nat) : Int)).toNat + 1 by omega]; exact upRow_set (show k = ((k + ((b.length : Nat) : Int)).toNat : Int) - ((b.length : Nat) : Int) by omega) hrow (cand_eq (v1 := x65) (v2 := x326) (x := min 1073741824 (max x326 (max 0 k))) (by assumption) (by assumption) (x1 := _) (by first | exact .inl ⟨⟨by omega, by omega⟩, rfl⟩ | exact .inr ⟨by omega, rfl⟩) (by first | exact .inl ⟨⟨by omega, by omega⟩, rfl⟩ | exact .inr ⟨by omega, rfl⟩)) (by unfold far; omega) (by assumption)), stf_382, ho_383, rfl⟩, ?_⟩
              omega
            · have hp385 : ¬ ((min 1073741824 (max x326 (max 0 k))) < 1073741824) := of_decide_eq_false hc335
              refine FW.skip (hK10 _ _ ?_)
              clear hK10 K10
              refine FW.region rfl ?_
              refine FWl.val 45 rfl rfl (Value.int .i64 k) _ (r_move) ?_
              refine FWl.val 46 rfl rfl (Value.int .i64 (k + 1)) _ (r_addI rfl rfl (by omega) (by omega)) ?_
              refine FWl.val 7 rfl rfl (Value.int .i64 (k + 1)) _ (r_assign) ?_
              refine FWl.nil (thenF_norm (?_))
              refine ⟨_, ⟨C45, k + 1, row, ⟨rfl, rfl, rfl, rfl, rfl, rfl, rfl, rfl, rfl, rfl, rfl, rfl, rfl, rfl, rfl, rfl, rfl, rfl, rfl, rfl, rfl, rfl, rfl, rfl, rfl, rfl, rfl, rfl, rfl, rfl, rfl, rfl, rfl, rfl, rfl, rfl, rfl, trivial⟩, hL1_321, stR_323, hlR, ⟨by omega, by omega⟩, by first | (exfalso; omega) | (rw [show (k + 1 + ((b.length : Nat) : Int)).toNat = (k + ((b.length : Nat) : Int)).toNat + 1 by omega]; rw [upRow_skip (show k = ((k + ((b.length : Nat) : Int)).toNat : Int) - ((b.length : Nat) : Int) by omega) (cand_eq (v1 := x65) (v2 := x326) (x := min 1073741824 (max x326 (max 0 k))) (by assumption) (by assumption) (x1 := _) (by first | exact .inl ⟨⟨by omega, by omega⟩, rfl⟩ | exact .inr ⟨by omega, rfl⟩) (by first | exact .inl ⟨⟨by omega, by omega⟩, rfl⟩ | exact .inr ⟨by omega, rfl⟩)) (by unfold far; omega)]; exact hrow), stf_322, ho_324, rfl⟩, ?_⟩
              omega
          · have hp386 : ¬ (((max x326 (max 0 k)) - k) < ((b.length : Nat) : Int)) := of_decide_eq_false hc333
            refine FW.skip (hK27 _ _ ?_)
            clear hK27 K27
            refine FW.seq_k fun K31 hK31 => ?_
            refine FW.region rfl ?_
            refine FWl.val 92 rfl rfl (Value.int .i64 1073741824) _ (r_move) ?_
            refine FWl.val 93 rfl rfl (Value.bool false) _ (r_lss (a := 1073741824) (b := 1073741824) rfl rfl) ?_
            refine FWl.nil (hK31 _ _ ?_)
            clear hK31 K31
            refine FW.cond false rfl (fun h => nomatch h) (fun _ => ?_)
            refine FW.skip (hK10 _ _ ?_)
            clear hK10 K10
            refine FW.region rfl ?_
            refine FWl.val 45 rfl rfl (Value.int .i64 k) _ (r_move) ?_
            refine FWl.val 46 rfl rfl (Value.int .i64 (k + 1)) _ (r_addI rfl rfl (by omega) (by omega)) ?_
            refine FWl.val 7 rfl rfl (Value.int .i64 (k + 1)) _ (r_assign) ?_
            refine FWl.nil (thenF_norm (?_))
            refine ⟨_, ⟨C45, k + 1, row, ⟨rfl, rfl, rfl, rfl, rfl, rfl, rfl, rfl, rfl, rfl, rfl, rfl, rfl, rfl, rfl, rfl, rfl, rfl, rfl, rfl, rfl, rfl, rfl, rfl, rfl, rfl, rfl, rfl, rfl, rfl, rfl, rfl, rfl, rfl, rfl, rfl, rfl, trivial⟩, hL1_321, stR_323, hlR, ⟨by omega, by omega⟩, by first | (exfalso; omega) | (rw [show (k + 1 + ((b.length : Nat) : Int)).toNat = (k + ((b.length : Nat) : Int)).toNat + 1 by omega]; rw [upRow_skip (show k = ((k + ((b.length : Nat) : Int)).toNat : Int) - ((b.length : Nat) : Int) by omega) (cand_eq (v1 := x65) (v2 := x326) (x := 1073741824) (by assumption) (by assumption) (x1 := _) (by first | exact .inl ⟨⟨by omega, by omega⟩, rfl⟩ | exact .inr ⟨by omega, rfl⟩) (by first | exact .inl ⟨⟨by omega, by omega⟩, rfl⟩ | exact .inr ⟨by omega, rfl⟩)) (by unfold far; omega)]; exact hrow), stf_322, ho_324, rfl⟩, ?_⟩
            omega
        | false =>
          have hp387 : ¬ ((max x326 (max 0 k)) ≤ ((a.length : Nat) : Int)) := of_decide_eq_false hb331
          refine FWl.skip 83 rfl rfl ?_
          refine FWl.skip 84 rfl rfl ?_
          refine FWl.skip 85 rfl rfl ?_
          refine FWl.skip 86 rfl rfl ?_
          refine FWl.skip 87 rfl rfl ?_
          refine FWl.val 88 rfl rfl (Value.bool false) _ (r_pick (t := false) rfl) ?_
          refine FWl.nil (hK29 _ _ ?_)
          clear hK29 K29
          refine FW.cond false rfl (fun h => nomatch h) (fun _ => ?_)
          refine FW.skip (hK27 _ _ ?_)
          clear hK27 K27
          refine FW.seq_k fun K32 hK32 => ?_
          refine FW.region rfl ?_
          refine FWl.val 92 rfl rfl (Value.int .i64 1073741824) _ (r_move) ?_
          refine FWl.val 93 rfl rfl (Value.bool false) _ (r_lss (a := 1073741824) (b := 1073741824) rfl rfl) ?_
          refine FWl.nil (hK32 _ _ ?_)
          clear hK32 K32
          refine FW.cond false rfl (fun h => nomatch h) (fun _ => ?_)
          refine FW.skip (hK10 _ _ ?_)
          clear hK10 K10
          refine FW.region rfl ?_
          refine FWl.val 45 rfl rfl (Value.int .i64 k) _ (r_move) ?_
          refine FWl.val 46 rfl rfl (Value.int .i64 (k + 1)) _ (r_addI rfl rfl (by omega) (by omega)) ?_
          refine FWl.val 7 rfl rfl (Value.int .i64 (k + 1)) _ (r_assign) ?_
          refine FWl.nil (thenF_norm (?_))
          refine ⟨_, ⟨C45, k + 1, row, ⟨rfl, rfl, rfl, rfl, rfl, rfl, rfl, rfl, rfl, rfl, rfl, rfl, rfl, rfl, rfl, rfl, rfl, rfl, rfl, rfl, rfl, rfl, rfl, rfl, rfl, rfl, rfl, rfl, rfl, rfl, rfl, rfl, rfl, rfl, rfl, rfl, rfl, trivial⟩, hL1_321, stR_323, hlR, ⟨by omega, by omega⟩, by first | (exfalso; omega) | (rw [show (k + 1 + ((b.length : Nat) : Int)).toNat = (k + ((b.length : Nat) : Int)).toNat + 1 by omega]; rw [upRow_skip (show k = ((k + ((b.length : Nat) : Int)).toNat : Int) - ((b.length : Nat) : Int) by omega) (cand_eq (v1 := x65) (v2 := x326) (x := 1073741824) (by assumption) (by assumption) (x1 := _) (by first | exact .inl ⟨⟨by omega, by omega⟩, rfl⟩ | exact .inr ⟨by omega, rfl⟩) (by first | exact .inl ⟨⟨by omega, by omega⟩, rfl⟩ | exact .inr ⟨by omega, rfl⟩)) (by unfold far; omega)]; exact hrow), stf_322, ho_324, rfl⟩, ?_⟩
          omega
    · have hp388 : ¬ (k ≤ ((a.length : Nat) : Int)) := of_decide_eq_false hc55
      refine FW.exit (thenF_exit (thenF_exit (inBlockF_hit (hK6 _ _ ?_))))
      clear hK6 K6 hK8 K8
      refine FW.seq_k fun K33 hK33 => ?_
      refine FW.region rfl ?_
      refine FWl.val 110 rfl rfl (Value.pointer (some ⟨gf, 0, none⟩)) _ (r_move) ?_
      refine FWl.val 111 rfl rfl (Value.pointer (some ⟨gf, 0, none⟩)) _ (r_move) ?_
      refine FWl.val 112 rfl rfl (Value.pointer (some ⟨gf, 0, none⟩)) _ (r_nilCheck rfl) ?_
      refine FWl.val 113 rfl rfl (Value.pointer (some ⟨gf, 2, none⟩)) _ (r_fieldAddrS Try.underlying100 rfl Try.sizeOf34 rfl rfl rfl rfl) ?_
      refine FWl.val 114 rfl rfl (Value.slice A3 rows.length c3) _ (r_load1 Try.isAgg34 rfl (stfL46.cell rfl)) ?_
      refine FWl.val 115 rfl rfl (Value.slice (some ⟨g25, 0, none⟩) x17.length x17.length) _ (r_move) ?_
      obtain ⟨C389, m390, hs391⟩ := stR.commitI hH54 (by have := hlR; omega)
      have hE_392 := hE_48.trans (m390.ext (Nat.le_trans hB0 hE_48.size) (by omega))
      have stf_393 := stfL46.other m390 (stfL46.ne_type stR (by decide))
      have ho_394 := hoL47.mut m390 (hoL47.nbT stR (by decide))
      have hH395 := m390.has
      have hsa_396 := hsa_49.mono m390.le
      have hsb_397 := hsb_50.mono m390.le
      have hsr_398 := hsr_51.mono m390.le
      rw [show Value.slice (some ⟨g25, 0, none⟩) x17.length x17.length = Value.slice (some ⟨g25, 0, none⟩) row.length row.length by rw [hlR]]
      refine FWl.lit (K := kSl (kInt .i64)) (xs := [row]) (cs := [Value.slice (some ⟨g25, 0, none⟩) row.length row.length]) rfl rfl rfl Try.underlying34 info39 zero39 rfl (by kernel_rfl) (.cons (cs := [Value.slice (some ⟨g25, 0, none⟩) row.length row.length]) (kSl_mk hs391) .nil) rfl hH395 ?_
      intro A401 w402 C403 hs404 e405 hcg406
      have hE_407 := hE_392.trans (e405.mono (Nat.le_trans hB0 hE_392.size))
      have stf_408 := stf_393.call e405
      have ho_409 := ho_394.call e405
      have hsa_410 := hsa_396.mono e405.le
      have hsb_411 := hsb_397.mono e405.le
      have hsr_412 := hsr_398.mono e405.le
      have hs391_415 := hs391.mono e405.le
      have hH416 := e405.has
      refine FWl.app (K := kSl (kInt .i64)) (B := B) (xs := rows) (ys := [row]) (sz := 1) (bytes := 24) rfl rfl rfl Try.underlying34 info39 zero39 rfl rfl rfl rfl rfl rfl rfl hsr_412 ho_409 hs404 hH416 (Nat.le_trans hB0 hE_407.size) (by simp only [List.length_cons, List.length_nil]; omega) (by simp only [List.length_cons, List.length_nil]; omega) ?_
      intro A417 c418 w419 C420 hs421 ow422 e423 ap424
      have hE_425 := hE_407.trans e423
      have stf_426 := stf_408.app ap424 (ho_409.nbT stf_408 (by decide))
      have hsa_427 := hsa_410.mono e423.le
      have hsb_428 := hsb_411.mono e423.le
      have hs391_432 := hs391_415.mono e423.le
      have hH435 := e423.has
      refine FWl.val 118 rfl rfl (Value.pointer (some ⟨gf, 0, none⟩)) _ (r_nilCheck rfl) ?_
      refine FWl.val 119 rfl rfl (Value.pointer (some ⟨gf, 2, none⟩)) _ (r_fieldAddrS Try.underlying100 rfl Try.sizeOf34 rfl rfl rfl rfl) ?_
      refine FWl.store (vs := [Value.slice A417 ((rows ++ ([row])).length) c418]) (cs' := [Value.slice A1 a.length c1, Value.slice A2 b.length c2, Value.slice A417 ((rows ++ ([row])).length) c418]) rfl rfl rfl Try.sizeOf34 rfl stf_426 hH435 rfl rfl rfl rfl rfl rfl ?_
      intro w436 m437 stf_438
      have hE_439 := hE_425.trans (m437.ext (Nat.le_trans hB0 hE_425.size) (by omega))
      have ow422_440 := ow422.mut m437 (ow422.nbT stf_426 (by decide))
      have hH441 := m437.has
      refine FWl.nil (hK33 _ _ ?_)
      clear hK33 K33
      refine FW.seq_k fun K34 hK34 => ?_
      refine FW.region rfl ?_
      refine FWl.val 120 rfl rfl (Value.slice (some ⟨g25, 0, none⟩) row.length row.length) _ (r_move) ?_
      refine FWl.val 121 rfl rfl (Value.pointer (some ⟨gf, 0, none⟩)) _ (r_move) ?_
      refine FWl.call 122 rfl rfl 46 #[Value.pointer (some ⟨gf, 0, none⟩), Value.int .i64 0] (r_call2 Try.call46 rfl rfl rfl) ((slot_c hH441 stf_438 hsa_427 hsb_428 hs421 (k := 0) (by omega) (by omega)).mono ?_)
      rintro _ w442 ⟨rfl, e443⟩
      have hE_444 := hE_439.trans (e443.mono (Nat.le_trans hB0 hE_439.size))
      have stf_445 := stf_438.call e443
      have ow422_446 := ow422_440.call e443
      have hH447 := e443.has
      obtain ⟨x448, hx449⟩ := get_some (xs := row) (j := (0 + ((b.length : Nat) : Int) + 1).toNat) (by omega)
      obtain ⟨cs450, hr451, hg452⟩ := hs391_432.at_ _ _ hx449
      obtain rfl := hr451
      refine FWl.val 123 rfl rfl (ptrAt (some ⟨g25, 0, none⟩) ((0 + ((b.length : Nat) : Int) + 1).toNat * 1)) _ (r_indexAddr Try.underlying39 Try.sizeOf3 rfl rfl (hs391_432.isSome (by omega)) (by omega) (by omega)) ?_
      refine FWl.val 124 rfl rfl (Value.int .i64 x448) _ (r_loadG1 (i := 0) Try.isAgg3 hg452 rfl rfl hH447) ?_
      refine FWl.val 125 rfl rfl (Value.bool (decide (x448 = 0))) _ (r_eql rfl rfl) ?_
      refine FWl.val 2 rfl rfl (Value.bool (decide (x448 = 0))) _ (r_assign) ?_
      refine FWl.nil (hK34 _ _ ?_)
      clear hK34 K34
      refine FW.ret (?_)
      refine ret_tmp (v := Value.bool (decide (x448 = 0))) Try.results47 (.inl rfl) rfl ?_
      have hrow' : row = stepRow a b (lastR rows) := by rw [hla, hrow]; unfold stepRow; congr 1; omega
      rw [← hrow']
      exact ⟨C420, A417, c418, by rw [rd_of (by assumption)], hE_444, stf_445, hs421, ow422_446⟩

end Go.Proofs.Ytlofomkhiefbmaa
