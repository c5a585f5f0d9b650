/- Walks. -/
import Derived.Test.YtlofomkhiefbmaaJH
import Derived.Test.YtlofomkhiefbmaaJT
import Derived.Test.YtlofomkhiefbmaaJI
import Derived.Test.YtlofomkhiefbmaaM2
set_option maxRecDepth 10000
set_option linter.unusedVariables false
set_option linter.unusedSimpArgs false
namespace Go.Proofs.Ytlofomkhiefbmaa
open Go.RowKit
theorem add_zero {B g c cw : Nat} {A Aw : Option Addr} {d : Int} {l wt : List Line} {w : World} {C : Gh} (hH : Has w C) (hg : B ≤ g) (hst : St w C g [.slice none ([] : List (List Value)).length 0, .slice Aw wt.length cw] 92) (hw : Sl kLine C Aw cw wt) (how : Own B 43 2 w C Aw wt.length cw) (hl : Sl kLine C A c l) (hb : l.length ≤ 100000) : Ret Try.prog 60 #[.pointer (some ⟨g, 0, none⟩), .int .i64 d, .slice A l.length c] w fun v w' => ∃ C', v = .tuple #[] ∧ Ext B w C w' C' ∧ RowSt 92 57 43 B w' C' g (rAdd [] d l) wt := by
  refine Ret.of Try.func60 rfl Try.ntmps60 rfl ?_
  have hE := Ext.refl (B := B) hH
  have hB0 : B ≤ w.heap.size := Nat.le_trans hg (Nat.le_of_lt hst.lt)
  have hlt_hst := hst.lt
  have hm0 : MRow B 57 2 w C none 0 [] := MRow.nil
  refine FW.seq_k fun K1 hK1 => ?_
  refine FW.region rfl ?_
  refine FWl.val 7 rfl rfl (Value.pointer (some ⟨g, 0, none⟩)) _ (r_move) ?_
  refine FWl.val 8 rfl rfl (Value.pointer (some ⟨g, 0, none⟩)) _ (r_nilCheck rfl) ?_
  refine FWl.val 9 rfl rfl (Value.pointer (some ⟨g, 0, none⟩)) _ (r_fieldAddrS Try.underlying92 rfl Try.sizeOf26 rfl rfl rfl rfl) ?_
  refine FWl.val 10 rfl rfl (Value.slice none 0 0) _ (r_load1 Try.isAgg26 rfl (hst.cell rfl)) ?_
  refine FWl.val 11 rfl rfl (Value.int .i64 0) _ (r_lenSl Try.underlying26 rfl) ?_
  refine FWl.val 6 rfl rfl (Value.int .i64 0) _ (r_assign) ?_
  refine FWl.nil (hK1 _ _ ?_)
  clear hK1 K1
  refine FW.block ?_
  refine FW.seq_k fun K2 hK2 => ?_
  refine FW.region rfl ?_
  refine FWl.val 26 rfl rfl (Value.slice A l.length c) _ (r_move) ?_
  refine FWl.val 27 rfl rfl (Value.int .i64 ((l.length : Nat) : Int)) _ (r_lenSl Try.underlying22 rfl) ?_
  refine FWl.val 28 rfl rfl (Value.bool (decide (((l.length : Nat) : Int) = 0))) _ (r_eql rfl rfl) ?_
  refine FWl.val 25 rfl rfl (Value.bool (decide (((l.length : Nat) : Int) = 0))) _ (r_assign) ?_
  refine FWl.nil (hK2 _ _ ?_)
  clear hK2 K2
  refine FW.cond (decide (((l.length : Nat) : Int) = 0)) rfl (fun hc1 => ?_) (fun hc1 => ?_)
  · have hp2 : ((l.length : Nat) : Int) = 0 := of_decide_eq_true hc1
    refine FW.skip (inBlockF_norm (?_))
    refine ret_none  Try.results60 (.inr rfl) ?_
    first | (exfalso; omega) | skip
    obtain rfl : l = [] := List.eq_nil_of_length_eq_zero (by omega)
    exact ⟨C, rfl, hE, by rw [rAdd_nil]; exact .nil rfl hg hst hw how⟩
  · have hp3 : ¬ (((l.length : Nat) : Int) = 0) := of_decide_eq_false hc1
    refine FW.seq_k fun K3 hK3 => ?_
    refine FW.region rfl ?_
    refine FWl.val 30 rfl rfl (Value.int .i64 0) _ (r_move) ?_
    refine FWl.val 31 rfl rfl (Value.bool false) _ (r_gtr (a := 0) (b := 0) rfl rfl) ?_
    refine FWl.val 32 rfl rfl (Value.bool false) _ (r_move) ?_
    refine FWl.skip 33 rfl rfl ?_
    refine FWl.skip 34 rfl rfl ?_
    refine FWl.skip 35 rfl rfl ?_
    refine FWl.skip 36 rfl rfl ?_
    refine FWl.skip 37 rfl rfl ?_
    refine FWl.skip 38 rfl rfl ?_
    refine FWl.skip 39 rfl rfl ?_
    refine FWl.skip 40 rfl rfl ?_
    refine FWl.skip 41 rfl rfl ?_
    refine FWl.skip 42 rfl rfl ?_
    refine FWl.skip 43 rfl rfl ?_
    refine FWl.val 44 rfl rfl (Value.bool false) _ (r_pick (t := false) rfl) ?_
    refine FWl.val 29 rfl rfl (Value.bool false) _ (r_assign) ?_
    refine FWl.nil (hK3 _ _ ?_)
    clear hK3 K3
    refine FW.cond false rfl (fun h => nomatch h) (fun _ => ?_)
    refine FW.regionDraw mixed (SS C (NotT 57 w.drew) w.drew) [13] [(0, true), (1, true), (2, true), (3, true), (4, true), (5, true), (6, false), (7, false), (8, false), (9, false), (10, false), (11, false), (12, false), (13, false)] rfl (by kernel_rfl) ?_
    have e5 : Ext w.heap.size w C w.drew C := (Ext.refl hH).drew
    generalize w.drew = w4 at *
    have hE_6 := hE.trans (e5.mono (Nat.le_trans hB0 hE.size))
    have hst_7 := hst.call e5
    have how_8 := how.call e5
    have hm0_9 := hm0.call e5
    have hH10 := e5.has
    have hS11 : SS C (NotT 57 w4) w4 w4 := SS.refl hH10
    have hle12 := Gle.refl C
    refine FWs.take rfl 12 rfl rfl (Value.pointer (some ⟨g, 0, none⟩)) hS11 (fun _ _ => r_move) ?_
    refine FWs.take rfl 13 rfl rfl (Value.pointer (some ⟨g, 0, none⟩)) hS11 (fun _ _ => r_move) ?_
    refine FWs.take rfl 14 rfl rfl (Value.pointer (some ⟨g, 0, none⟩)) hS11 (fun _ _ => r_nilCheck rfl) ?_
    refine FWs.take rfl 15 rfl rfl (Value.pointer (some ⟨g, 0, none⟩)) hS11 (fun _ _ => r_fieldAddrS Try.underlying92 rfl Try.sizeOf26 rfl rfl rfl rfl) ?_
    refine FWs.take rfl 16 rfl rfl (Value.slice none 0 0) hS11 (fun _ hS' => r_load1 Try.isAgg26 rfl (hS'.cell hst_7 (hst_7.notT (by decide)) rfl)) ?_
    refine FWs.take rfl 17 rfl rfl (Value.int .i64 d) hS11 (fun _ _ => r_move) ?_
    refine FWs.val rfl 18 rfl rfl (Value.slice A l.length c) _ (r_move) (.inr hS11) ?_
    refine FWs.call rfl 19 rfl rfl 52 #[Value.slice A l.length c] (r_call1 Try.call52 rfl rfl) ((cloneLine_c hH10 hl (by omega)).mono ?_)
    rintro _ w13 ⟨C14, A16, c17, rfl, e15, hs18, ho19⟩
    have hE_20 := hE_6.trans (e15.mono (Nat.le_trans hB0 hE_6.size))
    have hst_21 := hst_7.call e15
    have how_22 := how_8.call e15
    have hm0_23 := hm0_9.call e15
    have hle24 := hle12.trans e15.le
    have hw_25 := hw.mono e15.le
    have hH27 := e15.has
    have hS28 := hS11.step e15
    have ho29 := ho19.lower (Nat.le_trans hB0 hE_6.size)
    have nb30 : Nb2 _ _ _ _ _ _ := nb2_new how_8 ho19
    refine ⟨(.inr hS28), ?_⟩
    refine FWs.val rfl 20 rfl rfl (Value.agg #[Value.int .i64 d, Value.slice A16 l.length c17]) _ (r_build (by kernel_rfl)) (.inr hS28) ?_
    refine FWs.lit (K := kEdit) (xs := [(⟨d, l⟩ : Edit)]) (cs := [Value.int .i64 d, Value.slice A16 l.length c17]) rfl rfl rfl rfl Try.underlying26 info57 zero57 rfl (by kernel_rfl) (.cons (cs := [Value.int .i64 d, Value.slice A16 l.length c17]) (kEdit_mk hs18) .nil) rfl hH27 ?_
    intro A31 w32 C33 hs34 e35 hcg36
    have hE_37 := hE_20.trans (e35.mono (Nat.le_trans hB0 hE_20.size))
    have hst_38 := hst_21.call e35
    have how_39 := how_22.call e35
    have ho19_40 := ho29.call e35
    have hm0_41 := hm0_23.call e35
    have hle42 := hle24.trans e35.le
    have hw_43 := hw_25.mono e35.le
    have hs18_45 := hs18.mono e35.le
    have hH46 := e35.has
    have hS47 := hS28.step e35
    refine ⟨(.inr hS47), ?_⟩
    refine FWs.appM (K := kEdit) (B := B) (y := (⟨d, l⟩ : Edit)) (r := [Value.int .i64 d, Value.slice A16 l.length c17]) (sz := 2) (bytes := 32) rfl rfl rfl rfl Try.underlying26 info57 zero57 rfl rfl rfl rfl rfl rfl rfl hm0_41 hcg36 (kEdit_mk hs18_45) hH46 (Nat.le_trans hB0 hE_37.size) (by simp <;> omega) (by simp <;> omega) ?_
    intro A48 c49 w50 hM51 e52 hts53 hto54 hoth55
    have hE_56 := hE_37.trans e52
    have hst_57 := hts53 _ _ _ hst_38 (by decide)
    have how_58 := hto54 _ _ _ _ _ _ how_39 (by decide)
    have ho19_59 := hto54 _ _ _ _ _ _ ho19_40 (by decide)
    have hH60 := e52.has
    have hln_hM51 : (([] : List (List Value)) ++ [[Value.int .i64 d, Value.slice A16 l.length c17]]).length = ([] : List (List Value)).length + 1 := by simp
    have hS61 := hS47.appM e52 hH60 hle42 hoth55
    refine ⟨.inr hS61, ?_⟩
    refine FWs.val rfl 23 rfl rfl (Value.pointer (some ⟨g, 0, none⟩)) _ (r_nilCheck rfl) (.inr hS61) ?_
    refine FWs.val rfl 24 rfl rfl (Value.pointer (some ⟨g, 0, none⟩)) _ (r_fieldAddrS Try.underlying92 rfl Try.sizeOf26 rfl rfl rfl rfl) (.inr hS61) ?_
    refine FWs.store (vs := [Value.slice A48 ((([] : List (List Value)) ++ [[Value.int .i64 d, Value.slice A16 l.length c17]]).length) c49]) (cs' := [Value.slice A48 ((([] : List (List Value)) ++ [[Value.int .i64 d, Value.slice A16 l.length c17]]).length) c49, Value.slice Aw wt.length cw]) rfl rfl rfl rfl Try.sizeOf26 rfl hst_57 hH60 rfl rfl rfl rfl rfl rfl ?_
    intro w62 m63 hst_64
    have hE_65 := hE_56.trans (m63.ext (Nat.le_trans hB0 hE_56.size) (by omega))
    have how_66 := how_58.mut m63 (how_58.nbT hst_57 (by decide))
    have ho19_67 := ho19_59.mut m63 (ho19_59.nbT hst_57 (by decide))
    have hm0_68 := hM51.other m63 hst_57 (by decide)
    refine ⟨(.inl rfl), ?_⟩
    refine FWs.nil (inBlockF_norm (?_))
    refine ret_none  Try.results60 (.inr rfl) ?_
    have hne : l ≠ [] := fun h => by subst h; simp at *
    exact ⟨C33, rfl, hE_65, by rw [rAdd_zero hne]; exact .snoc (s0 := []) (rows0 := []) (x := ⟨d, l⟩) rfl hg hst_64 hm0_68 .nil rfl hs18_45 ho19_67 hw_43 how_66 nb30.symm⟩

theorem add_snoc {B g c cw cs cx : Nat} {A Aw As Ax : Option Addr} {d : Int} {l wt : List Line} {rows0 : List (List Value)} {s0 : List Edit} {x : Edit} {w : World} {C : Gh} (hH : Has w C) (hg : B ≤ g) (hst : St w C g [.slice As (rows0 ++ [[Value.int .i64 x.do_, Value.slice Ax x.lines.length cx]]).length cs, .slice Aw wt.length cw] 92) (hm : MRow B 57 2 w C As cs (rows0 ++ [[Value.int .i64 x.do_, Value.slice Ax x.lines.length cx]])) (hr0 : RowR kEdit C s0 rows0.flatten) (hl0 : rows0.length = s0.length) (hx : Sl kLine C Ax cx x.lines) (hox : Own B 43 2 w C Ax x.lines.length cx) (hw : Sl kLine C Aw cw wt) (how : Own B 43 2 w C Aw wt.length cw) (hn : Nb2 Ax x.lines.length cx Aw wt.length cw) (hl : Sl kLine C A c l) (hb : x.lines.length + l.length ≤ 100000) (hs : s0.length ≤ 100000) : Ret Try.prog 60 #[.pointer (some ⟨g, 0, none⟩), .int .i64 d, .slice A l.length c] w fun v w' => ∃ C', v = .tuple #[] ∧ Ext B w C w' C' ∧ RowSt 92 57 43 B w' C' g (rAdd (s0 ++ [x]) d l) wt := by
  refine Ret.of Try.func60 rfl Try.ntmps60 rfl ?_
  have hE := Ext.refl (B := B) hH
  have hB0 : B ≤ w.heap.size := Nat.le_trans hg (Nat.le_of_lt hst.lt)
  have hlt_hst := hst.lt
  have hln_hm : (rows0 ++ [[Value.int .i64 x.do_, Value.slice Ax x.lines.length cx]]).length = rows0.length + 1 := by simp
  refine FW.seq_k fun K1 hK1 => ?_
  refine FW.region rfl ?_
  refine FWl.val 7 rfl rfl (Value.pointer (some ⟨g, 0, none⟩)) _ (r_move) ?_
  refine FWl.val 8 rfl rfl (Value.pointer (some ⟨g, 0, none⟩)) _ (r_nilCheck rfl) ?_
  refine FWl.val 9 rfl rfl (Value.pointer (some ⟨g, 0, none⟩)) _ (r_fieldAddrS Try.underlying92 rfl Try.sizeOf26 rfl rfl rfl rfl) ?_
  refine FWl.val 10 rfl rfl (Value.slice As ((rows0 ++ [[Value.int .i64 x.do_, Value.slice Ax x.lines.length cx]]).length) cs) _ (r_load1 Try.isAgg26 rfl (hst.cell rfl)) ?_
  refine FWl.val 11 rfl rfl (Value.int .i64 (((rows0 ++ [[Value.int .i64 x.do_, Value.slice Ax x.lines.length cx]]).length : Nat) : Int)) _ (r_lenSl Try.underlying26 rfl) ?_
  refine FWl.val 6 rfl rfl (Value.int .i64 (((rows0 ++ [[Value.int .i64 x.do_, Value.slice Ax x.lines.length cx]]).length : Nat) : Int)) _ (r_assign) ?_
  refine FWl.nil (hK1 _ _ ?_)
  clear hK1 K1
  refine FW.block ?_
  refine FW.seq_k fun K2 hK2 => ?_
  refine FW.region rfl ?_
  refine FWl.val 26 rfl rfl (Value.slice A l.length c) _ (r_move) ?_
  refine FWl.val 27 rfl rfl (Value.int .i64 ((l.length : Nat) : Int)) _ (r_lenSl Try.underlying22 rfl) ?_
  refine FWl.val 28 rfl rfl (Value.bool (decide (((l.length : Nat) : Int) = 0))) _ (r_eql rfl rfl) ?_
  refine FWl.val 25 rfl rfl (Value.bool (decide (((l.length : Nat) : Int) = 0))) _ (r_assign) ?_
  refine FWl.nil (hK2 _ _ ?_)
  clear hK2 K2
  refine FW.cond (decide (((l.length : Nat) : Int) = 0)) rfl (fun hc1 => ?_) (fun hc1 => ?_)
  · have hp2 : ((l.length : Nat) : Int) = 0 := of_decide_eq_true hc1
    refine FW.skip (inBlockF_norm (?_))
    refine ret_none  Try.results60 (.inr rfl) ?_
    obtain rfl : l = [] := List.eq_nil_of_length_eq_zero (by omega)
    exact ⟨C, rfl, hE, by rw [rAdd_nil]; exact .snoc rfl hg hst hm hr0 hl0 hx hox hw how hn⟩
  · have hp3 : ¬ (((l.length : Nat) : Int) = 0) := of_decide_eq_false hc1
    refine FW.seq_k fun K3 hK3 => ?_
    refine FW.region rfl ?_
    refine FWl.val 30 rfl rfl (Value.int .i64 (((rows0 ++ [[Value.int .i64 x.do_, Value.slice Ax x.lines.length cx]]).length : Nat) : Int)) _ (r_move) ?_
    refine FWl.val 31 rfl rfl (Value.bool (decide (0 < (((rows0 ++ [[Value.int .i64 x.do_, Value.slice Ax x.lines.length cx]]).length : Nat) : Int)))) _ (r_gtr rfl rfl) ?_
    refine FWl.val 32 rfl rfl (Value.bool (decide (0 < (((rows0 ++ [[Value.int .i64 x.do_, Value.slice Ax x.lines.length cx]]).length : Nat) : Int)))) _ (r_move) ?_
    cases hb4 : (decide (0 < (((rows0 ++ [[Value.int .i64 x.do_, Value.slice Ax x.lines.length cx]]).length : Nat) : Int))) with
    | true =>
      have hp5 : 0 < (((rows0 ++ [[Value.int .i64 x.do_, Value.slice Ax x.lines.length cx]]).length : Nat) : Int) := of_decide_eq_true hb4
      refine FWl.val 33 rfl rfl (Value.pointer (some ⟨g, 0, none⟩)) _ (r_move) ?_
      refine FWl.val 34 rfl rfl (Value.pointer (some ⟨g, 0, none⟩)) _ (r_nilCheck rfl) ?_
      refine FWl.val 35 rfl rfl (Value.pointer (some ⟨g, 0, none⟩)) _ (r_fieldAddrS Try.underlying92 rfl Try.sizeOf26 rfl rfl rfl rfl) ?_
      refine FWl.val 36 rfl rfl (Value.slice As ((rows0 ++ [[Value.int .i64 x.do_, Value.slice Ax x.lines.length cx]]).length) cs) _ (r_load1 Try.isAgg26 rfl (hst.cell rfl)) ?_
      refine FWl.val 37 rfl rfl (Value.int .i64 (((rows0 ++ [[Value.int .i64 x.do_, Value.slice Ax x.lines.length cx]]).length : Nat) : Int)) _ (r_move) ?_
      refine FWl.val 38 rfl rfl (Value.int .i64 ((((rows0 ++ [[Value.int .i64 x.do_, Value.slice Ax x.lines.length cx]]).length : Nat) : Int) - 1)) _ (r_subI rfl rfl (by omega) (by omega)) ?_
      have hi6 : (rows0 ++ [[Value.int .i64 x.do_, Value.slice Ax x.lines.length cx]])[((((rows0 ++ [[Value.int .i64 x.do_, Value.slice Ax x.lines.length cx]]).length : Nat) : Int) - 1).toNat]? = some [Value.int .i64 x.do_, Value.slice Ax x.lines.length cx] := last_at (by simp <;> omega)
      refine FWl.val 39 rfl rfl (ptrAt As (((((rows0 ++ [[Value.int .i64 x.do_, Value.slice Ax x.lines.length cx]]).length : Nat) : Int) - 1).toNat * 2)) _ (r_indexAddr Try.underlying26 Try.sizeOf57 rfl rfl (hm.isSome (by simp)) (by simp <;> omega) (by simp <;> omega)) ?_
      refine FWl.val 40 rfl rfl (ptrAt As (((((rows0 ++ [[Value.int .i64 x.do_, Value.slice Ax x.lines.length cx]]).length : Nat) : Int) - 1).toNat * 2)) _ (r_fieldAddrAt Try.underlying57 rfl Try.sizeOf55 rfl rfl rfl (hm.isSome (by simp)) rfl) ?_
      refine FWl.val 41 rfl rfl (Value.int .i64 x.do_) _ (r_loadM1 (j := 0) Try.isAgg55 hm hi6 rfl rfl) ?_
      refine FWl.val 42 rfl rfl (Value.int .i64 d) _ (r_move) ?_
      refine FWl.val 43 rfl rfl (Value.bool (decide (x.do_ = d))) _ (r_eql rfl rfl) ?_
      refine FWl.val 44 rfl rfl (Value.bool (decide (x.do_ = d))) _ (r_pick (t := true) rfl) ?_
      refine FWl.val 29 rfl rfl (Value.bool (decide (x.do_ = d))) _ (r_assign) ?_
      refine FWl.nil (hK3 _ _ ?_)
      clear hK3 K3
      refine FW.cond (decide (x.do_ = d)) rfl (fun hc7 => ?_) (fun hc7 => ?_)
      · have hp8 : x.do_ = d := of_decide_eq_true hc7
        refine FW.regionDraw mixed (SS C (Nb Ax x.lines.length cx) w.drew) [19] [(0, true), (1, true), (2, true), (3, true), (4, true), (5, true), (6, true), (7, true), (8, true), (9, true), (10, true), (11, true), (12, true), (13, true), (14, true), (15, false), (16, false), (17, false), (18, false), (19, false)] rfl (by kernel_rfl) ?_
        have e10 : Ext w.heap.size w C w.drew C := (Ext.refl hH).drew
        generalize w.drew = w9 at *
        have hE_11 := hE.trans (e10.mono (Nat.le_trans hB0 hE.size))
        have hst_12 := hst.call e10
        have hox_13 := hox.call e10
        have how_14 := how.call e10
        have hm_15 := hm.call e10
        have hH16 := e10.has
        have hS17 : SS C (Nb Ax x.lines.length cx) w9 w9 := SS.refl hH16
        have hle18 := Gle.refl C
        refine FWs.take rfl 45 rfl rfl (Value.pointer (some ⟨g, 0, none⟩)) hS17 (fun _ _ => r_move) ?_
        refine FWs.take rfl 46 rfl rfl (Value.pointer (some ⟨g, 0, none⟩)) hS17 (fun _ _ => r_nilCheck rfl) ?_
        refine FWs.take rfl 47 rfl rfl (Value.pointer (some ⟨g, 0, none⟩)) hS17 (fun _ _ => r_fieldAddrS Try.underlying92 rfl Try.sizeOf26 rfl rfl rfl rfl) ?_
        refine FWs.take rfl 48 rfl rfl (Value.slice As ((rows0 ++ [[Value.int .i64 x.do_, Value.slice Ax x.lines.length cx]]).length) cs) hS17 (fun _ hS' => r_load1 Try.isAgg26 rfl (hS'.cell hst_12 (hox_13.nbT hst_12 (by decide)) rfl)) ?_
        refine FWs.take rfl 49 rfl rfl (Value.int .i64 (((rows0 ++ [[Value.int .i64 x.do_, Value.slice Ax x.lines.length cx]]).length : Nat) : Int)) hS17 (fun _ _ => r_move) ?_
        refine FWs.take rfl 50 rfl rfl (Value.int .i64 ((((rows0 ++ [[Value.int .i64 x.do_, Value.slice Ax x.lines.length cx]]).length : Nat) : Int) - 1)) hS17 (fun _ _ => r_subI rfl rfl (by omega) (by omega)) ?_
        refine FWs.take rfl 51 rfl rfl (Value.pointer (some ⟨g, 0, none⟩)) hS17 (fun _ _ => r_move) ?_
        refine FWs.take rfl 52 rfl rfl (Value.pointer (some ⟨g, 0, none⟩)) hS17 (fun _ _ => r_nilCheck rfl) ?_
        refine FWs.take rfl 53 rfl rfl (Value.pointer (some ⟨g, 0, none⟩)) hS17 (fun _ _ => r_fieldAddrS Try.underlying92 rfl Try.sizeOf26 rfl rfl rfl rfl) ?_
        refine FWs.take rfl 54 rfl rfl (Value.slice As ((rows0 ++ [[Value.int .i64 x.do_, Value.slice Ax x.lines.length cx]]).length) cs) hS17 (fun _ hS' => r_load1 Try.isAgg26 rfl (hS'.cell hst_12 (hox_13.nbT hst_12 (by decide)) rfl)) ?_
        refine FWs.take rfl 55 rfl rfl (Value.int .i64 (((rows0 ++ [[Value.int .i64 x.do_, Value.slice Ax x.lines.length cx]]).length : Nat) : Int)) hS17 (fun _ _ => r_move) ?_
        refine FWs.take rfl 56 rfl rfl (Value.int .i64 ((((rows0 ++ [[Value.int .i64 x.do_, Value.slice Ax x.lines.length cx]]).length : Nat) : Int) - 1)) hS17 (fun _ _ => r_subI rfl rfl (by omega) (by omega)) ?_
        have hi19 : (rows0 ++ [[Value.int .i64 x.do_, Value.slice Ax x.lines.length cx]])[((((rows0 ++ [[Value.int .i64 x.do_, Value.slice Ax x.lines.length cx]]).length : Nat) : Int) - 1).toNat]? = some [Value.int .i64 x.do_, Value.slice Ax x.lines.length cx] := last_at (by simp <;> omega)
        refine FWs.take rfl 57 rfl rfl (ptrAt As (((((rows0 ++ [[Value.int .i64 x.do_, Value.slice Ax x.lines.length cx]]).length : Nat) : Int) - 1).toNat * 2)) hS17 (fun _ _ => r_indexAddr Try.underlying26 Try.sizeOf57 rfl rfl (hm_15.isSome (by simp)) (by simp <;> omega) (by simp <;> omega)) ?_
        refine FWs.take rfl 58 rfl rfl (ptrAt As (((((rows0 ++ [[Value.int .i64 x.do_, Value.slice Ax x.lines.length cx]]).length : Nat) : Int) - 1).toNat * 2 + 1)) hS17 (fun _ _ => r_fieldAddrAt Try.underlying57 rfl Try.sizeOf22 rfl rfl rfl (hm_15.isSome (by simp)) rfl) ?_
        refine FWs.take rfl 59 rfl rfl (Value.slice Ax x.lines.length cx) hS17 (fun _ hS' => r_loadM1 (j := 1) Try.isAgg22 (hS'.mrow hm_15 (fun _ _ st => hox_13.nbT st (by decide))) hi19 rfl rfl) ?_
        refine FWs.val rfl 60 rfl rfl (Value.slice A l.length c) _ (r_move) (.inr hS17) ?_
        refine FWs.app (K := kLine) (B := B) (xs := x.lines) (ys := l) (sz := 2) (bytes := 24) rfl rfl rfl rfl Try.underlying22 info43 zero43 rfl rfl rfl rfl rfl rfl rfl hx hox_13 hl hH16 (Nat.le_trans hB0 hE_11.size) (by omega) (by omega) ?_
        intro A20 c21 w22 C23 hs24 ow25 e26 ap27
        have hE_28 := hE_11.trans e26
        have hm_29 := hm_15.app ap27 hox_13 (by decide)
        have hst_30 := hst_12.app ap27 (hox_13.nbT hst_12 (by decide))
        have nb31 := ap27.nb2 how_14 hn
        have how_32 := how_14.app ap27 hn
        have hle33 := hle18.trans e26.le
        have hw_34 := hw.mono e26.le
        have hr0_37 := RowR.mono hr0 e26.le
        have hH38 := e26.has
        have hS39 := hS17.app ap27 hH38 hle33 (fun _ h => h)
        refine ⟨(.inr hS39), ?_⟩
        have hi40 : (rows0 ++ [[Value.int .i64 x.do_, Value.slice Ax x.lines.length cx]])[((((rows0 ++ [[Value.int .i64 x.do_, Value.slice Ax x.lines.length cx]]).length : Nat) : Int) - 1).toNat]? = some [Value.int .i64 x.do_, Value.slice Ax x.lines.length cx] := last_at (by simp <;> omega)
        refine FWs.val rfl 62 rfl rfl (ptrAt As (((((rows0 ++ [[Value.int .i64 x.do_, Value.slice Ax x.lines.length cx]]).length : Nat) : Int) - 1).toNat * 2)) _ (r_indexAddr Try.underlying26 Try.sizeOf57 rfl rfl (hm_29.isSome (by simp)) (by simp <;> omega) (by simp <;> omega)) (.inr hS39) ?_
        refine FWs.val rfl 63 rfl rfl (ptrAt As (((((rows0 ++ [[Value.int .i64 x.do_, Value.slice Ax x.lines.length cx]]).length : Nat) : Int) - 1).toNat * 2 + 1)) _ (r_fieldAddrAt Try.underlying57 rfl Try.sizeOf22 rfl rfl rfl (hm_29.isSome (by simp)) rfl) (.inr hS39) ?_
        refine FWs.storeM (vs := [Value.slice A20 ((x.lines ++ l).length) c21]) (rows' := rows0 ++ [[Value.int .i64 x.do_, Value.slice A20 ((x.lines ++ l).length) c21]]) (j := 1) rfl rfl rfl rfl Try.sizeOf22 rfl hm_29 hi40 rfl hH38 rfl rfl rfl rfl (by rw [set_last (by simp <;> omega)]; rfl) ?_
        intro g43 w41 cs44 m42 hM46 hB45 hst47
        have hE_48 := hE_28.trans (m42.ext (Nat.le_trans hB0 hE_28.size) (by omega))
        have hst_49 := hst_30.other m42 (hst_30.ne_type hst47 (by decide))
        have how_50 := how_32.mut m42 (how_32.nbT hst47 (by decide))
        have ow25_51 := ow25.mut m42 (ow25.nbT hst47 (by decide))
        have hln_hM46 : (rows0 ++ [[Value.int .i64 x.do_, Value.slice A20 ((x.lines ++ l).length) c21]]).length = rows0.length + 1 := by simp
        have hst_53 : St w41 C23 g [Value.slice As ((rows0 ++ [[Value.int .i64 x.do_, Value.slice A20 ((x.lines ++ l).length) c21]]).length) cs, Value.slice Aw wt.length cw] 92 := by simpa only [List.length_append, List.length_cons, List.length_nil] using hst_49
        refine ⟨(.inl rfl), ?_⟩
        refine FWs.nil (inBlockF_norm (?_))
        refine ret_none  Try.results60 (.inr rfl) ?_
        have hne : l ≠ [] := fun h => by subst h; simp at *
        exact ⟨C23, rfl, hE_48, by rw [rAdd_same hne (by omega)]; exact .snoc (x := ⟨d, x.lines ++ l⟩) rfl hg (by rw [← (show x.do_ = d by omega)]; exact hst_53) (by rw [← (show x.do_ = d by omega)]; exact hM46) hr0_37 hl0 hs24 ow25_51 hw_34 how_50 nb31⟩
      · have hp54 : ¬ (x.do_ = d) := of_decide_eq_false hc7
        refine FW.regionDraw mixed (SS C (NotT 57 w.drew) w.drew) [13] [(0, true), (1, true), (2, true), (3, true), (4, true), (5, true), (6, false), (7, false), (8, false), (9, false), (10, false), (11, false), (12, false), (13, false)] rfl (by kernel_rfl) ?_
        have e56 : Ext w.heap.size w C w.drew C := (Ext.refl hH).drew
        generalize w.drew = w55 at *
        have hE_57 := hE.trans (e56.mono (Nat.le_trans hB0 hE.size))
        have hst_58 := hst.call e56
        have hox_59 := hox.call e56
        have how_60 := how.call e56
        have hm_61 := hm.call e56
        have hH62 := e56.has
        have hS63 : SS C (NotT 57 w55) w55 w55 := SS.refl hH62
        have hle64 := Gle.refl C
        refine FWs.take rfl 12 rfl rfl (Value.pointer (some ⟨g, 0, none⟩)) hS63 (fun _ _ => r_move) ?_
        refine FWs.take rfl 13 rfl rfl (Value.pointer (some ⟨g, 0, none⟩)) hS63 (fun _ _ => r_move) ?_
        refine FWs.take rfl 14 rfl rfl (Value.pointer (some ⟨g, 0, none⟩)) hS63 (fun _ _ => r_nilCheck rfl) ?_
        refine FWs.take rfl 15 rfl rfl (Value.pointer (some ⟨g, 0, none⟩)) hS63 (fun _ _ => r_fieldAddrS Try.underlying92 rfl Try.sizeOf26 rfl rfl rfl rfl) ?_
        refine FWs.take rfl 16 rfl rfl (Value.slice As ((rows0 ++ [[Value.int .i64 x.do_, Value.slice Ax x.lines.length cx]]).length) cs) hS63 (fun _ hS' => r_load1 Try.isAgg26 rfl (hS'.cell hst_58 (hst_58.notT (by decide)) rfl)) ?_
        refine FWs.take rfl 17 rfl rfl (Value.int .i64 d) hS63 (fun _ _ => r_move) ?_
        refine FWs.val rfl 18 rfl rfl (Value.slice A l.length c) _ (r_move) (.inr hS63) ?_
        refine FWs.call rfl 19 rfl rfl 52 #[Value.slice A l.length c] (r_call1 Try.call52 rfl rfl) ((cloneLine_c hH62 hl (by omega)).mono ?_)
        rintro _ w65 ⟨C66, A68, c69, rfl, e67, hs70, ho71⟩
        have hE_72 := hE_57.trans (e67.mono (Nat.le_trans hB0 hE_57.size))
        have hst_73 := hst_58.call e67
        have hox_74 := hox_59.call e67
        have how_75 := how_60.call e67
        have hm_76 := hm_61.call e67
        have hle77 := hle64.trans e67.le
        have hw_78 := hw.mono e67.le
        have hx_80 := hx.mono e67.le
        have hr0_81 := RowR.mono hr0 e67.le
        have hH82 := e67.has
        have hS83 := hS63.step e67
        have ho84 := ho71.lower (Nat.le_trans hB0 hE_57.size)
        have nb85 : Nb2 _ _ _ _ _ _ := nb2_new hox_59 ho71
        have nb86 : Nb2 _ _ _ _ _ _ := nb2_new how_60 ho71
        refine ⟨(.inr hS83), ?_⟩
        refine FWs.val rfl 20 rfl rfl (Value.agg #[Value.int .i64 d, Value.slice A68 l.length c69]) _ (r_build (by kernel_rfl)) (.inr hS83) ?_
        refine FWs.lit (K := kEdit) (xs := [(⟨d, l⟩ : Edit)]) (cs := [Value.int .i64 d, Value.slice A68 l.length c69]) rfl rfl rfl rfl Try.underlying26 info57 zero57 rfl (by kernel_rfl) (.cons (cs := [Value.int .i64 d, Value.slice A68 l.length c69]) (kEdit_mk hs70) .nil) rfl hH82 ?_
        intro A87 w88 C89 hs90 e91 hcg92
        have hE_93 := hE_72.trans (e91.mono (Nat.le_trans hB0 hE_72.size))
        have hst_94 := hst_73.call e91
        have hox_95 := hox_74.call e91
        have how_96 := how_75.call e91
        have ho71_97 := ho84.call e91
        have hm_98 := hm_76.call e91
        have hle99 := hle77.trans e91.le
        have hw_100 := hw_78.mono e91.le
        have hx_102 := hx_80.mono e91.le
        have hr0_103 := RowR.mono hr0_81 e91.le
        have hs70_104 := hs70.mono e91.le
        have hH105 := e91.has
        have hS106 := hS83.step e91
        refine ⟨(.inr hS106), ?_⟩
        refine FWs.appM (K := kEdit) (B := B) (y := (⟨d, l⟩ : Edit)) (r := [Value.int .i64 d, Value.slice A68 l.length c69]) (sz := 2) (bytes := 32) rfl rfl rfl rfl Try.underlying26 info57 zero57 rfl rfl rfl rfl rfl rfl rfl hm_98 hcg92 (kEdit_mk hs70_104) hH105 (Nat.le_trans hB0 hE_93.size) (by simp <;> omega) (by simp <;> omega) ?_
        intro A107 c108 w109 hM110 e111 hts112 hto113 hoth114
        have hE_115 := hE_93.trans e111
        have hst_116 := hts112 _ _ _ hst_94 (by decide)
        have hox_117 := hto113 _ _ _ _ _ _ hox_95 (by decide)
        have how_118 := hto113 _ _ _ _ _ _ how_96 (by decide)
        have ho71_119 := hto113 _ _ _ _ _ _ ho71_97 (by decide)
        have hH120 := e111.has
        have hln_hM110 : ((rows0 ++ [[Value.int .i64 x.do_, Value.slice Ax x.lines.length cx]]) ++ [[Value.int .i64 d, Value.slice A68 l.length c69]]).length = (rows0 ++ [[Value.int .i64 x.do_, Value.slice Ax x.lines.length cx]]).length + 1 := by simp
        have hS121 := hS106.appM e111 hH120 hle99 hoth114
        refine ⟨.inr hS121, ?_⟩
        refine FWs.val rfl 23 rfl rfl (Value.pointer (some ⟨g, 0, none⟩)) _ (r_nilCheck rfl) (.inr hS121) ?_
        refine FWs.val rfl 24 rfl rfl (Value.pointer (some ⟨g, 0, none⟩)) _ (r_fieldAddrS Try.underlying92 rfl Try.sizeOf26 rfl rfl rfl rfl) (.inr hS121) ?_
        refine FWs.store (vs := [Value.slice A107 (((rows0 ++ [[Value.int .i64 x.do_, Value.slice Ax x.lines.length cx]]) ++ [[Value.int .i64 d, Value.slice A68 l.length c69]]).length) c108]) (cs' := [Value.slice A107 (((rows0 ++ [[Value.int .i64 x.do_, Value.slice Ax x.lines.length cx]]) ++ [[Value.int .i64 d, Value.slice A68 l.length c69]]).length) c108, Value.slice Aw wt.length cw]) rfl rfl rfl rfl Try.sizeOf26 rfl hst_116 hH120 rfl rfl rfl rfl rfl rfl ?_
        intro w122 m123 hst_124
        have hE_125 := hE_115.trans (m123.ext (Nat.le_trans hB0 hE_115.size) (by omega))
        have how_127 := how_118.mut m123 (how_118.nbT hst_116 (by decide))
        have ho71_128 := ho71_119.mut m123 (ho71_119.nbT hst_116 (by decide))
        have hm_129 := hM110.other m123 hst_116 (by decide)
        refine ⟨(.inl rfl), ?_⟩
        refine FWs.nil (inBlockF_norm (?_))
        refine ret_none  Try.results60 (.inr rfl) ?_
        have hne : l ≠ [] := fun h => by subst h; simp at *
        exact ⟨C89, rfl, hE_125, by rw [rAdd_new hne (by omega)]; exact .snoc (x := ⟨d, l⟩) rfl hg hst_124 hm_129 (rowR_snoc hr0_103 hx_102) (by simp [hl0]) hs70_104 ho71_128 hw_100 how_127 nb86.symm⟩
    | false =>
      have hp131 : ¬ (0 < (((rows0 ++ [[Value.int .i64 x.do_, Value.slice Ax x.lines.length cx]]).length : Nat) : Int)) := of_decide_eq_false hb4
      refine FWl.skip 33 rfl rfl ?_
      refine FWl.skip 34 rfl rfl ?_
      refine FWl.skip 35 rfl rfl ?_
      refine FWl.skip 36 rfl rfl ?_
      refine FWl.skip 37 rfl rfl ?_
      refine FWl.skip 38 rfl rfl ?_
      refine FWl.skip 39 rfl rfl ?_
      refine FWl.skip 40 rfl rfl ?_
      refine FWl.skip 41 rfl rfl ?_
      refine FWl.skip 42 rfl rfl ?_
      refine FWl.skip 43 rfl rfl ?_
      refine FWl.val 44 rfl rfl (Value.bool false) _ (r_pick (t := false) rfl) ?_
      refine FWl.val 29 rfl rfl (Value.bool false) _ (r_assign) ?_
      refine FWl.nil (hK3 _ _ ?_)
      clear hK3 K3
      refine FW.cond false rfl (fun h => nomatch h) (fun _ => ?_)
      refine FW.regionDraw mixed (SS C (NotT 57 w.drew) w.drew) [13] [(0, true), (1, true), (2, true), (3, true), (4, true), (5, true), (6, false), (7, false), (8, false), (9, false), (10, false), (11, false), (12, false), (13, false)] rfl (by kernel_rfl) ?_
      have e133 : Ext w.heap.size w C w.drew C := (Ext.refl hH).drew
      generalize w.drew = w132 at *
      have hE_134 := hE.trans (e133.mono (Nat.le_trans hB0 hE.size))
      have hst_135 := hst.call e133
      have hox_136 := hox.call e133
      have how_137 := how.call e133
      have hm_138 := hm.call e133
      have hH139 := e133.has
      have hS140 : SS C (NotT 57 w132) w132 w132 := SS.refl hH139
      have hle141 := Gle.refl C
      refine FWs.take rfl 12 rfl rfl (Value.pointer (some ⟨g, 0, none⟩)) hS140 (fun _ _ => r_move) ?_
      refine FWs.take rfl 13 rfl rfl (Value.pointer (some ⟨g, 0, none⟩)) hS140 (fun _ _ => r_move) ?_
      refine FWs.take rfl 14 rfl rfl (Value.pointer (some ⟨g, 0, none⟩)) hS140 (fun _ _ => r_nilCheck rfl) ?_
      refine FWs.take rfl 15 rfl rfl (Value.pointer (some ⟨g, 0, none⟩)) hS140 (fun _ _ => r_fieldAddrS Try.underlying92 rfl Try.sizeOf26 rfl rfl rfl rfl) ?_
      refine FWs.take rfl 16 rfl rfl (Value.slice As ((rows0 ++ [[Value.int .i64 x.do_, Value.slice Ax x.lines.length cx]]).length) cs) hS140 (fun _ hS' => r_load1 Try.isAgg26 rfl (hS'.cell hst_135 (hst_135.notT (by decide)) rfl)) ?_
      refine FWs.take rfl 17 rfl rfl (Value.int .i64 d) hS140 (fun _ _ => r_move) ?_
      refine FWs.val rfl 18 rfl rfl (Value.slice A l.length c) _ (r_move) (.inr hS140) ?_
      refine FWs.call rfl 19 rfl rfl 52 #[Value.slice A l.length c] (r_call1 Try.call52 rfl rfl) ((cloneLine_c hH139 hl (by omega)).mono ?_)
      rintro _ w142 ⟨C143, A145, c146, rfl, e144, hs147, ho148⟩
      have hE_149 := hE_134.trans (e144.mono (Nat.le_trans hB0 hE_134.size))
      have hst_150 := hst_135.call e144
      have hox_151 := hox_136.call e144
      have how_152 := how_137.call e144
      have hm_153 := hm_138.call e144
      have hle154 := hle141.trans e144.le
      have hw_155 := hw.mono e144.le
      have hx_157 := hx.mono e144.le
      have hr0_158 := RowR.mono hr0 e144.le
      have hH159 := e144.has
      have hS160 := hS140.step e144
      have ho161 := ho148.lower (Nat.le_trans hB0 hE_134.size)
      have nb162 : Nb2 _ _ _ _ _ _ := nb2_new hox_136 ho148
      have nb163 : Nb2 _ _ _ _ _ _ := nb2_new how_137 ho148
      refine ⟨(.inr hS160), ?_⟩
      refine FWs.val rfl 20 rfl rfl (Value.agg #[Value.int .i64 d, Value.slice A145 l.length c146]) _ (r_build (by kernel_rfl)) (.inr hS160) ?_
      refine FWs.lit (K := kEdit) (xs := [(⟨d, l⟩ : Edit)]) (cs := [Value.int .i64 d, Value.slice A145 l.length c146]) rfl rfl rfl rfl Try.underlying26 info57 zero57 rfl (by kernel_rfl) (.cons (cs := [Value.int .i64 d, Value.slice A145 l.length c146]) (kEdit_mk hs147) .nil) rfl hH159 ?_
      intro A164 w165 C166 hs167 e168 hcg169
      have hE_170 := hE_149.trans (e168.mono (Nat.le_trans hB0 hE_149.size))
      have hst_171 := hst_150.call e168
      have hox_172 := hox_151.call e168
      have how_173 := how_152.call e168
      have ho148_174 := ho161.call e168
      have hm_175 := hm_153.call e168
      have hle176 := hle154.trans e168.le
      have hw_177 := hw_155.mono e168.le
      have hx_179 := hx_157.mono e168.le
      have hr0_180 := RowR.mono hr0_158 e168.le
      have hs147_181 := hs147.mono e168.le
      have hH182 := e168.has
      have hS183 := hS160.step e168
      refine ⟨(.inr hS183), ?_⟩
      refine FWs.appM (K := kEdit) (B := B) (y := (⟨d, l⟩ : Edit)) (r := [Value.int .i64 d, Value.slice A145 l.length c146]) (sz := 2) (bytes := 32) rfl rfl rfl rfl Try.underlying26 info57 zero57 rfl rfl rfl rfl rfl rfl rfl hm_175 hcg169 (kEdit_mk hs147_181) hH182 (Nat.le_trans hB0 hE_170.size) (by simp <;> omega) (by simp <;> omega) ?_
      intro A184 c185 w186 hM187 e188 hts189 hto190 hoth191
      have hE_192 := hE_170.trans e188
      have hst_193 := hts189 _ _ _ hst_171 (by decide)
      have hox_194 := hto190 _ _ _ _ _ _ hox_172 (by decide)
      have how_195 := hto190 _ _ _ _ _ _ how_173 (by decide)
      have ho148_196 := hto190 _ _ _ _ _ _ ho148_174 (by decide)
      have hH197 := e188.has
      have hln_hM187 : ((rows0 ++ [[Value.int .i64 x.do_, Value.slice Ax x.lines.length cx]]) ++ [[Value.int .i64 d, Value.slice A145 l.length c146]]).length = (rows0 ++ [[Value.int .i64 x.do_, Value.slice Ax x.lines.length cx]]).length + 1 := by simp
      have hS198 := hS183.appM e188 hH197 hle176 hoth191
      refine ⟨.inr hS198, ?_⟩
      refine FWs.val rfl 23 rfl rfl (Value.pointer (some ⟨g, 0, none⟩)) _ (r_nilCheck rfl) (.inr hS198) ?_
      refine FWs.val rfl 24 rfl rfl (Value.pointer (some ⟨g, 0, none⟩)) _ (r_fieldAddrS Try.underlying92 rfl Try.sizeOf26 rfl rfl rfl rfl) (.inr hS198) ?_
      refine FWs.store (vs := [Value.slice A184 (((rows0 ++ [[Value.int .i64 x.do_, Value.slice Ax x.lines.length cx]]) ++ [[Value.int .i64 d, Value.slice A145 l.length c146]]).length) c185]) (cs' := [Value.slice A184 (((rows0 ++ [[Value.int .i64 x.do_, Value.slice Ax x.lines.length cx]]) ++ [[Value.int .i64 d, Value.slice A145 l.length c146]]).length) c185, Value.slice Aw wt.length cw]) rfl rfl rfl rfl Try.sizeOf26 rfl hst_193 hH197 rfl rfl rfl rfl rfl rfl ?_
      intro w199 m200 hst_201
      have hE_202 := hE_192.trans (m200.ext (Nat.le_trans hB0 hE_192.size) (by omega))
      have how_204 := how_195.mut m200 (how_195.nbT hst_193 (by decide))
      have ho148_205 := ho148_196.mut m200 (ho148_196.nbT hst_193 (by decide))
      have hm_206 := hM187.other m200 hst_193 (by decide)
      refine ⟨(.inl rfl), ?_⟩
      refine FWs.nil (inBlockF_norm (?_))
      refine ret_none  Try.results60 (.inr rfl) ?_
      have hne : l ≠ [] := fun h => by subst h; simp at *
      exact ⟨C166, rfl, hE_202, by rw [rAdd_new hne (by omega)]; exact .snoc (x := ⟨d, l⟩) rfl hg hst_201 hm_206 (rowR_snoc hr0_180 hx_179) (by simp [hl0]) hs147_181 ho148_205 hw_177 how_204 nb163.symm⟩

theorem add_c {B g c : Nat} {A : Option Addr} {d : Int} {s : List Edit} {l wt : List Line} {w : World} {C : Gh} (hH : Has w C) (h : RowSt 92 57 43 B w C g s wt) (hl : Sl kLine C A c l) (hb : total s + l.length ≤ 100000) (hs : s.length ≤ 100000) :
    Ret Try.prog 60 #[Value.pointer (some ⟨g, 0, none⟩), .int .i64 d, .slice A l.length c] w fun v w' => ∃ C', v = .tuple #[] ∧ Ext B w C w' C' ∧ RowSt 92 57 43 B w' C' g (rAdd s d l) wt := by
  cases h with
  | nil hs hg hst hw how => subst hs; exact add_zero hH hg hst hw how hl (by omega)
  | snoc hs hg hst hm hr0 hl0 hx hox hw how hn =>
    subst hs
    rw [total_app] at hb
    simp [total] at hb
    simp at hs
    exact add_snoc hH hg hst hm hr0 hl0 hx hox hw how hn hl (by omega) (by omega)
end Go.Proofs.Ytlofomkhiefbmaa
