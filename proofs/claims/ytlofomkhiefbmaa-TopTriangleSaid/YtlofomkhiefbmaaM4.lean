/- Walks. -/
import Derived.Test.YtlofomkhiefbmaaJH
import Derived.Test.YtlofomkhiefbmaaJT
import Derived.Test.YtlofomkhiefbmaaJI
import Derived.Test.YtlofomkhiefbmaaM3
set_option maxRecDepth 10000
set_option linter.unusedVariables false
set_option linter.unusedSimpArgs false
namespace Go.Proofs.Ytlofomkhiefbmaa
open Go.RowKit
theorem flush_c {B g : Nat} {s : List Edit} {wt : List Line} {w : World} {C : Gh} (hH : Has w C) (h : RowSt 92 57 43 B w C g s wt) (hb : total s + wt.length ≤ 100000) (hs : s.length ≤ 100000) : Ret Try.prog 39 #[.pointer (some ⟨g, 0, none⟩)] w fun v w' => ∃ C', v = .tuple #[] ∧ Ext B w C w' C' ∧ RowSt 92 57 43 B w' C' g (rAdd s 3 wt) ([]) := by
  refine Ret.of Try.func39 rfl Try.ntmps39 rfl ?_
  have hE := Ext.refl (B := B) hH
  have hB0 : B ≤ w.heap.size := Nat.le_trans h.lt.1 (Nat.le_of_lt h.lt.2)
  have ha1 := Ext.refl (B := w.heap.size) hH
  refine FW.seq_k fun K1 hK1 => ?_
  have hA2 := h.call ha1
  cases hA2 with
  | @nil Aw14 cw15 hs3 hg4 hst5 hw6 how7 =>
    have hm8 : MRow B 57 2 w C none 0 [] := MRow.nil
    have hlt_hst5 := hst5.lt
    refine FW.region rfl ?_
    refine FWl.val 2 rfl rfl (Value.pointer (some ⟨g, 0, none⟩)) _ (r_move) ?_
    refine FWl.val 3 rfl rfl (Value.pointer (some ⟨g, 0, none⟩)) _ (r_move) ?_
    refine FWl.val 4 rfl rfl (Value.pointer (some ⟨g, 0, none⟩)) _ (r_nilCheck rfl) ?_
    refine FWl.val 5 rfl rfl (Value.pointer (some ⟨g, 1, none⟩)) _ (r_fieldAddrS Try.underlying92 rfl Try.sizeOf22 rfl rfl rfl rfl) ?_
    refine FWl.val 6 rfl rfl (Value.slice Aw14 wt.length cw15) _ (r_load1 Try.isAgg22 rfl (hst5.cell rfl)) ?_
    have hA23 : RowSt 92 57 43 B w C g s wt := .nil hs3 hg4 hst5 hw6 how7
    refine FWl.call 7 rfl rfl 60 #[Value.pointer (some ⟨g, 0, none⟩), Value.int .i64 3, Value.slice Aw14 wt.length cw15] (r_call3 Try.call60 rfl rfl rfl rfl) ((add_c (d := 3) hH hA23 hw6 (by (try simp only [rAdd_total]); omega) (by omega)).mono ?_)
    rintro _ w24 ⟨C25, rfl, e26, hR27⟩
    have hE_28 := hE.trans e26
    have hH30 := e26.has
    have ha31 := Ext.refl (B := w24.heap.size) hH30
    refine FWl.nil (hK1 _ _ ?_)
    clear hK1 K1
    have hA32 := hR27.call ha31
    cases hA32 with
    | @nil Aw44 cw45 hs33 hg34 hst35 hw36 how37 =>
      have hm38 : MRow B 57 2 w24 C25 none 0 [] := MRow.nil
      have hlt_hst35 := hst35.lt
      refine FW.region rfl ?_
      refine FWl.val 8 rfl rfl (Value.pointer (some ⟨g, 0, none⟩)) _ (r_move) ?_
      refine FWl.val 9 rfl rfl (Value.pointer (some ⟨g, 0, none⟩)) _ (r_nilCheck rfl) ?_
      refine FWl.val 10 rfl rfl (Value.pointer (some ⟨g, 1, none⟩)) _ (r_fieldAddrS Try.underlying92 rfl Try.sizeOf22 rfl rfl rfl rfl) ?_
      refine FWl.store (vs := [Value.slice none 0 0]) (cs' := [Value.slice none 0 0, Value.slice none 0 0]) rfl rfl rfl Try.sizeOf22 rfl hst35 hH30 rfl rfl rfl rfl rfl rfl ?_
      intro w53 m54 hst35_55
      have hE_56 := hE_28.trans (m54.ext (Nat.le_trans hB0 hE_28.size) (by omega))
      refine FWl.nil (?_)
      refine ret_none  Try.results39 (.inr rfl) ?_
      have hA60 : RowSt 92 57 43 B w53 C25 g (rAdd s 3 wt) ([]) := .nil hs33 hg34 hst35_55 (Sl.nil _ _ _ _) Own.nil
      exact ⟨C25, rfl, hE_56, hA60⟩
    | @snoc As46 Aw44 A47 cs48 cw45 c49 rows050 s051 x52 hs33 hg34 hst35 hm38 hr039 hl040 hx41 hox42 hw36 how37 hn43 =>
      have hlt_hst35 := hst35.lt
      have hln_hm38 : (rows050 ++ [[Value.int .i64 x52.do_, Value.slice A47 x52.lines.length c49]]).length = rows050.length + 1 := by simp
      refine FW.region rfl ?_
      refine FWl.val 8 rfl rfl (Value.pointer (some ⟨g, 0, none⟩)) _ (r_move) ?_
      refine FWl.val 9 rfl rfl (Value.pointer (some ⟨g, 0, none⟩)) _ (r_nilCheck rfl) ?_
      refine FWl.val 10 rfl rfl (Value.pointer (some ⟨g, 1, none⟩)) _ (r_fieldAddrS Try.underlying92 rfl Try.sizeOf22 rfl rfl rfl rfl) ?_
      refine FWl.store (vs := [Value.slice none 0 0]) (cs' := [Value.slice As46 ((rows050 ++ [[Value.int .i64 x52.do_, Value.slice A47 x52.lines.length c49]]).length) cs48, Value.slice none 0 0]) rfl rfl rfl Try.sizeOf22 rfl hst35 hH30 rfl rfl rfl rfl rfl rfl ?_
      intro w61 m62 hst35_63
      have hE_64 := hE_28.trans (m62.ext (Nat.le_trans hB0 hE_28.size) (by omega))
      have hox42_65 := hox42.mut m62 (hox42.nbT hst35 (by decide))
      have hm38_67 := hm38.other m62 hst35 (by decide)
      refine FWl.nil (?_)
      refine ret_none  Try.results39 (.inr rfl) ?_
      have hA69 : RowSt 92 57 43 B w61 C25 g (rAdd s 3 wt) ([]) := .snoc hs33 hg34 hst35_63 hm38_67 hr039 hl040 hx41 hox42_65 (Sl.nil _ _ _ _) Own.nil Nb2.nil.symm
      exact ⟨C25, rfl, hE_64, hA69⟩
  | @snoc As16 Aw14 A17 cs18 cw15 c19 rows020 s021 x22 hs3 hg4 hst5 hm8 hr09 hl010 hx11 hox12 hw6 how7 hn13 =>
    have hlt_hst5 := hst5.lt
    have hln_hm8 : (rows020 ++ [[Value.int .i64 x22.do_, Value.slice A17 x22.lines.length c19]]).length = rows020.length + 1 := by simp
    refine FW.region rfl ?_
    refine FWl.val 2 rfl rfl (Value.pointer (some ⟨g, 0, none⟩)) _ (r_move) ?_
    refine FWl.val 3 rfl rfl (Value.pointer (some ⟨g, 0, none⟩)) _ (r_move) ?_
    refine FWl.val 4 rfl rfl (Value.pointer (some ⟨g, 0, none⟩)) _ (r_nilCheck rfl) ?_
    refine FWl.val 5 rfl rfl (Value.pointer (some ⟨g, 1, none⟩)) _ (r_fieldAddrS Try.underlying92 rfl Try.sizeOf22 rfl rfl rfl rfl) ?_
    refine FWl.val 6 rfl rfl (Value.slice Aw14 wt.length cw15) _ (r_load1 Try.isAgg22 rfl (hst5.cell rfl)) ?_
    have hA70 : RowSt 92 57 43 B w C g s wt := .snoc hs3 hg4 hst5 hm8 hr09 hl010 hx11 hox12 hw6 how7 hn13
    refine FWl.call 7 rfl rfl 60 #[Value.pointer (some ⟨g, 0, none⟩), Value.int .i64 3, Value.slice Aw14 wt.length cw15] (r_call3 Try.call60 rfl rfl rfl rfl) ((add_c (d := 3) hH hA70 hw6 (by (try simp only [rAdd_total]); omega) (by omega)).mono ?_)
    rintro _ w71 ⟨C72, rfl, e73, hR74⟩
    have hE_75 := hE.trans e73
    have hH79 := e73.has
    have ha80 := Ext.refl (B := w71.heap.size) hH79
    refine FWl.nil (hK1 _ _ ?_)
    clear hK1 K1
    have hA81 := hR74.call ha80
    cases hA81 with
    | @nil Aw93 cw94 hs82 hg83 hst84 hw85 how86 =>
      have hm87 : MRow B 57 2 w71 C72 none 0 [] := MRow.nil
      have hlt_hst84 := hst84.lt
      refine FW.region rfl ?_
      refine FWl.val 8 rfl rfl (Value.pointer (some ⟨g, 0, none⟩)) _ (r_move) ?_
      refine FWl.val 9 rfl rfl (Value.pointer (some ⟨g, 0, none⟩)) _ (r_nilCheck rfl) ?_
      refine FWl.val 10 rfl rfl (Value.pointer (some ⟨g, 1, none⟩)) _ (r_fieldAddrS Try.underlying92 rfl Try.sizeOf22 rfl rfl rfl rfl) ?_
      refine FWl.store (vs := [Value.slice none 0 0]) (cs' := [Value.slice none 0 0, Value.slice none 0 0]) rfl rfl rfl Try.sizeOf22 rfl hst84 hH79 rfl rfl rfl rfl rfl rfl ?_
      intro w102 m103 hst84_104
      have hE_105 := hE_75.trans (m103.ext (Nat.le_trans hB0 hE_75.size) (by omega))
      refine FWl.nil (?_)
      refine ret_none  Try.results39 (.inr rfl) ?_
      have hA109 : RowSt 92 57 43 B w102 C72 g (rAdd s 3 wt) ([]) := .nil hs82 hg83 hst84_104 (Sl.nil _ _ _ _) Own.nil
      exact ⟨C72, rfl, hE_105, hA109⟩
    | @snoc As95 Aw93 A96 cs97 cw94 c98 rows099 s0100 x101 hs82 hg83 hst84 hm87 hr088 hl089 hx90 hox91 hw85 how86 hn92 =>
      have hlt_hst84 := hst84.lt
      have hln_hm87 : (rows099 ++ [[Value.int .i64 x101.do_, Value.slice A96 x101.lines.length c98]]).length = rows099.length + 1 := by simp
      refine FW.region rfl ?_
      refine FWl.val 8 rfl rfl (Value.pointer (some ⟨g, 0, none⟩)) _ (r_move) ?_
      refine FWl.val 9 rfl rfl (Value.pointer (some ⟨g, 0, none⟩)) _ (r_nilCheck rfl) ?_
      refine FWl.val 10 rfl rfl (Value.pointer (some ⟨g, 1, none⟩)) _ (r_fieldAddrS Try.underlying92 rfl Try.sizeOf22 rfl rfl rfl rfl) ?_
      refine FWl.store (vs := [Value.slice none 0 0]) (cs' := [Value.slice As95 ((rows099 ++ [[Value.int .i64 x101.do_, Value.slice A96 x101.lines.length c98]]).length) cs97, Value.slice none 0 0]) rfl rfl rfl Try.sizeOf22 rfl hst84 hH79 rfl rfl rfl rfl rfl rfl ?_
      intro w110 m111 hst84_112
      have hE_113 := hE_75.trans (m111.ext (Nat.le_trans hB0 hE_75.size) (by omega))
      have hox91_114 := hox91.mut m111 (hox91.nbT hst84 (by decide))
      have hm87_116 := hm87.other m111 hst84 (by decide)
      refine FWl.nil (?_)
      refine ret_none  Try.results39 (.inr rfl) ?_
      have hA118 : RowSt 92 57 43 B w110 C72 g (rAdd s 3 wt) ([]) := .snoc hs82 hg83 hst84_112 hm87_116 hr088 hl089 hx90 hox91_114 (Sl.nil _ _ _ _) Own.nil Nb2.nil.symm
      exact ⟨C72, rfl, hE_113, hA118⟩

theorem take_c {B g c : Nat} {A : Option Addr} {s : List Edit} {wt : List Line} {x : Edit} {w : World} {C : Gh} (hH : Has w C) (h : RowSt 92 57 43 B w C g s wt) (hx : Sl kLine C A c x.lines) (hb : total s + wt.length + x.lines.length ≤ 50000) (hs : s.length ≤ 50000) : Ret Try.prog 38 #[.pointer (some ⟨g, 0, none⟩), .agg #[.int .i64 x.do_, .slice A x.lines.length c]] w fun v w' => ∃ C', v = .tuple #[] ∧ Ext B w C w' C' ∧ RowSt 92 57 43 B w' C' g ((rTake (s, wt) x).1) ((rTake (s, wt) x).2) := by
  refine Ret.of Try.func38 rfl Try.ntmps38 rfl ?_
  have hE := Ext.refl (B := B) hH
  have hB0 : B ≤ w.heap.size := Nat.le_trans h.lt.1 (Nat.le_of_lt h.lt.2)
  have ha1 := Ext.refl (B := w.heap.size) hH
  refine FW.seq_k fun K1 hK1 => ?_
  refine FW.region rfl ?_
  refine FWl.box (cs := [Value.int .i64 x.do_, Value.slice A x.lines.length c]) rfl rfl rfl rfl rfl hH ?_
  intro g2 w3 st4 e5 hg6
  have hge_st4_hE := Nat.le_trans hE.size (Nat.le_of_eq hg6)
  have hge_st4_ha1 := Nat.le_trans ha1.size (Nat.le_of_eq hg6)
  have hE_7 := hE.trans (e5.mono (Nat.le_trans hB0 hE.size))
  have ha1_8 := ha1.step e5
  have hH9 := e5.has
  have hlt_st4 := st4.lt
  obtain ⟨C10, m11, hcg12⟩ := st4.commit hH9
  have hE_13 := hE_7.trans (m11.ext (Nat.le_trans hB0 hE_7.size) (by omega))
  have ha1_14 := ha1_8.trans (m11.ext ha1_8.size (by omega))
  have hH15 := m11.has
  have hx_16 := hx.mono m11.le
  refine FWl.nil (hK1 _ _ ?_)
  clear hK1 K1
  refine FW.seq_k fun K2 hK2 => ?_
  refine FW.region rfl ?_
  refine FWl.val 4 rfl rfl (Value.pointer (some ⟨g2, 0, none⟩)) _ (r_fieldAddrS Try.underlying57 rfl Try.sizeOf55 rfl rfl rfl rfl) ?_
  refine FWl.val 5 rfl rfl (Value.int .i64 x.do_) _ (r_loadP1 Try.isAgg55 hcg12 rfl rfl hH15) ?_
  refine FWl.nil (hK2 _ _ ?_)
  clear hK2 K2
  refine FW.block ?_
  refine FW.seq_k fun K3 hK3 => ?_
  refine FW.block ?_
  refine FW.seq_k fun K4 hK4 => ?_
  refine FW.block ?_
  refine FW.seq_k fun K5 hK5 => ?_
  refine FW.block ?_
  refine FW.seq_k fun K6 hK6 => ?_
  refine FW.seq_k fun K7 hK7 => ?_
  refine FW.seq_k fun K8 hK8 => ?_
  refine FW.region rfl ?_
  refine FWl.val 7 rfl rfl (Value.bool (decide (x.do_ = 3))) _ (r_eql rfl rfl) ?_
  refine FWl.val 6 rfl rfl (Value.bool (decide (x.do_ = 3))) _ (r_assign) ?_
  refine FWl.nil (hK8 _ _ ?_)
  clear hK8 K8
  refine FW.cond (decide (x.do_ = 3)) rfl (fun hc17 => ?_) (fun hc17 => ?_)
  · have hp18 : x.do_ = 3 := of_decide_eq_true hc17
    refine FW.exit (thenF_exit (thenF_exit (inBlockF_hit (hK5 _ _ ?_))))
    clear hK5 K5 hK6 K6 hK7 K7
    refine FW.seq_k fun K9 hK9 => ?_
    have hA19 := h.call ha1_14
    cases hA19 with
    | @nil Aw31 cw32 hs20 hg21 hst22 hw23 how24 =>
      have hm25 : MRow B 57 2 w3 C10 none 0 [] := MRow.nil
      have hlt_hst22 := hst22.lt
      refine FW.regionDraw mixed (SS C10 (Nb Aw31 wt.length cw32) w3.drew) [10] [(0, true), (1, true), (2, true), (3, true), (4, true), (5, false), (6, false), (7, false), (8, false), (9, false), (10, false)] rfl (by kernel_rfl) ?_
      have e41 : Ext w3.heap.size w3 C10 w3.drew C10 := (Ext.refl hH15).drew
      generalize w3.drew = w40 at *
      have hE_42 := hE_13.trans (e41.mono (Nat.le_trans hB0 hE_13.size))
      have hst22_43 := hst22.call e41
      have how24_44 := how24.call e41
      have hH46 := e41.has
      have hS47 : SS C10 (Nb Aw31 wt.length cw32) w40 w40 := SS.refl hH46
      have hle48 := Gle.refl C10
      refine FWs.take rfl 10 rfl rfl (Value.pointer (some ⟨g, 0, none⟩)) hS47 (fun _ _ => r_move) ?_
      refine FWs.take rfl 11 rfl rfl (Value.pointer (some ⟨g, 0, none⟩)) hS47 (fun _ _ => r_move) ?_
      refine FWs.take rfl 12 rfl rfl (Value.pointer (some ⟨g, 0, none⟩)) hS47 (fun _ _ => r_nilCheck rfl) ?_
      refine FWs.take rfl 13 rfl rfl (Value.pointer (some ⟨g, 1, none⟩)) hS47 (fun _ _ => r_fieldAddrS Try.underlying92 rfl Try.sizeOf22 rfl rfl rfl rfl) ?_
      refine FWs.take rfl 14 rfl rfl (Value.slice Aw31 wt.length cw32) hS47 (fun _ hS' => r_load1 Try.isAgg22 rfl (hS'.cell hst22_43 (how24_44.nbT hst22_43 (by decide)) rfl)) ?_
      refine FWs.val rfl 15 rfl rfl (Value.pointer (some ⟨g2, 1, none⟩)) _ (r_fieldAddrS Try.underlying57 rfl Try.sizeOf22 rfl rfl rfl rfl) (.inr hS47) ?_
      refine FWs.val rfl 16 rfl rfl (Value.slice A x.lines.length c) _ (r_loadP1 Try.isAgg22 hcg12 rfl rfl hH46) (.inr hS47) ?_
      refine FWs.app (K := kLine) (B := B) (xs := wt) (ys := x.lines) (sz := 2) (bytes := 24) rfl rfl rfl rfl Try.underlying22 info43 zero43 rfl rfl rfl rfl rfl rfl rfl hw23 how24_44 hx_16 hH46 (Nat.le_trans hB0 hE_42.size) (by omega) (by omega) ?_
      intro A49 c50 w51 C52 hs53 ow54 e55 ap56
      have hE_57 := hE_42.trans e55
      have hst22_59 := hst22_43.app ap56 (how24_44.nbT hst22_43 (by decide))
      have hle60 := hle48.trans e55.le
      have hH64 := e55.has
      have hS65 := hS47.app ap56 hH64 hle60 (fun _ h => h)
      refine ⟨(.inr hS65), ?_⟩
      refine FWs.val rfl 18 rfl rfl (Value.pointer (some ⟨g, 0, none⟩)) _ (r_nilCheck rfl) (.inr hS65) ?_
      refine FWs.val rfl 19 rfl rfl (Value.pointer (some ⟨g, 1, none⟩)) _ (r_fieldAddrS Try.underlying92 rfl Try.sizeOf22 rfl rfl rfl rfl) (.inr hS65) ?_
      refine FWs.store (vs := [Value.slice A49 ((wt ++ x.lines).length) c50]) (cs' := [Value.slice none 0 0, Value.slice A49 ((wt ++ x.lines).length) c50]) rfl rfl rfl rfl Try.sizeOf22 rfl hst22_59 hH64 rfl rfl rfl rfl rfl rfl ?_
      intro w66 m67 hst22_68
      have hE_69 := hE_57.trans (m67.ext (Nat.le_trans hB0 hE_57.size) (by omega))
      have ow54_70 := ow54.mut m67 (ow54.nbT hst22_59 (by decide))
      refine ⟨(.inl rfl), ?_⟩
      refine FWs.nil (hK9 _ _ ?_)
      clear hK9 K9
      refine FW.exit (inBlockF_miss rfl (thenF_exit (inBlockF_miss rfl (thenF_exit (inBlockF_hit (?_))))))
      refine ret_none  Try.results38 (.inr rfl) ?_
      have hA73 : RowSt 92 57 43 B w66 C52 g s (wt ++ x.lines) := .nil hs20 hg21 hst22_68 hs53 ow54_70
      exact ⟨C52, rfl, hE_69, by first | (rw [rTake_in (by omega)]; exact hA73) | (rw [rTake_keep (by omega) (by omega)]; exact hA73) | (rw [rTake_else (by omega) (by omega)]; exact hA73)⟩
    | @snoc As33 Aw31 A34 cs35 cw32 c36 rows037 s038 x39 hs20 hg21 hst22 hm25 hr026 hl027 hx28 hox29 hw23 how24 hn30 =>
      have hlt_hst22 := hst22.lt
      have hln_hm25 : (rows037 ++ [[Value.int .i64 x39.do_, Value.slice A34 x39.lines.length c36]]).length = rows037.length + 1 := by simp
      refine FW.regionDraw mixed (SS C10 (Nb Aw31 wt.length cw32) w3.drew) [10] [(0, true), (1, true), (2, true), (3, true), (4, true), (5, false), (6, false), (7, false), (8, false), (9, false), (10, false)] rfl (by kernel_rfl) ?_
      have e75 : Ext w3.heap.size w3 C10 w3.drew C10 := (Ext.refl hH15).drew
      generalize w3.drew = w74 at *
      have hE_76 := hE_13.trans (e75.mono (Nat.le_trans hB0 hE_13.size))
      have hst22_77 := hst22.call e75
      have hox29_78 := hox29.call e75
      have how24_79 := how24.call e75
      have hm25_80 := hm25.call e75
      have hH81 := e75.has
      have hS82 : SS C10 (Nb Aw31 wt.length cw32) w74 w74 := SS.refl hH81
      have hle83 := Gle.refl C10
      refine FWs.take rfl 10 rfl rfl (Value.pointer (some ⟨g, 0, none⟩)) hS82 (fun _ _ => r_move) ?_
      refine FWs.take rfl 11 rfl rfl (Value.pointer (some ⟨g, 0, none⟩)) hS82 (fun _ _ => r_move) ?_
      refine FWs.take rfl 12 rfl rfl (Value.pointer (some ⟨g, 0, none⟩)) hS82 (fun _ _ => r_nilCheck rfl) ?_
      refine FWs.take rfl 13 rfl rfl (Value.pointer (some ⟨g, 1, none⟩)) hS82 (fun _ _ => r_fieldAddrS Try.underlying92 rfl Try.sizeOf22 rfl rfl rfl rfl) ?_
      refine FWs.take rfl 14 rfl rfl (Value.slice Aw31 wt.length cw32) hS82 (fun _ hS' => r_load1 Try.isAgg22 rfl (hS'.cell hst22_77 (how24_79.nbT hst22_77 (by decide)) rfl)) ?_
      refine FWs.val rfl 15 rfl rfl (Value.pointer (some ⟨g2, 1, none⟩)) _ (r_fieldAddrS Try.underlying57 rfl Try.sizeOf22 rfl rfl rfl rfl) (.inr hS82) ?_
      refine FWs.val rfl 16 rfl rfl (Value.slice A x.lines.length c) _ (r_loadP1 Try.isAgg22 hcg12 rfl rfl hH81) (.inr hS82) ?_
      refine FWs.app (K := kLine) (B := B) (xs := wt) (ys := x.lines) (sz := 2) (bytes := 24) rfl rfl rfl rfl Try.underlying22 info43 zero43 rfl rfl rfl rfl rfl rfl rfl hw23 how24_79 hx_16 hH81 (Nat.le_trans hB0 hE_76.size) (by omega) (by omega) ?_
      intro A84 c85 w86 C87 hs88 ow89 e90 ap91
      have hE_92 := hE_76.trans e90
      have hm25_93 := hm25_80.app ap91 how24_79 (by decide)
      have hst22_94 := hst22_77.app ap91 (how24_79.nbT hst22_77 (by decide))
      have nb95 := ap91.nb2 hox29_78 hn30.symm
      have hox29_96 := hox29_78.app ap91 hn30.symm
      have hle97 := hle83.trans e90.le
      have hx28_100 := hx28.mono e90.le
      have hr026_101 := RowR.mono hr026 e90.le
      have hH103 := e90.has
      have hS104 := hS82.app ap91 hH103 hle97 (fun _ h => h)
      refine ⟨(.inr hS104), ?_⟩
      refine FWs.val rfl 18 rfl rfl (Value.pointer (some ⟨g, 0, none⟩)) _ (r_nilCheck rfl) (.inr hS104) ?_
      refine FWs.val rfl 19 rfl rfl (Value.pointer (some ⟨g, 1, none⟩)) _ (r_fieldAddrS Try.underlying92 rfl Try.sizeOf22 rfl rfl rfl rfl) (.inr hS104) ?_
      refine FWs.store (vs := [Value.slice A84 ((wt ++ x.lines).length) c85]) (cs' := [Value.slice As33 ((rows037 ++ [[Value.int .i64 x39.do_, Value.slice A34 x39.lines.length c36]]).length) cs35, Value.slice A84 ((wt ++ x.lines).length) c85]) rfl rfl rfl rfl Try.sizeOf22 rfl hst22_94 hH103 rfl rfl rfl rfl rfl rfl ?_
      intro w105 m106 hst22_107
      have hE_108 := hE_92.trans (m106.ext (Nat.le_trans hB0 hE_92.size) (by omega))
      have hox29_109 := hox29_96.mut m106 (hox29_96.nbT hst22_94 (by decide))
      have ow89_110 := ow89.mut m106 (ow89.nbT hst22_94 (by decide))
      have hm25_111 := hm25_93.other m106 hst22_94 (by decide)
      refine ⟨(.inl rfl), ?_⟩
      refine FWs.nil (hK9 _ _ ?_)
      clear hK9 K9
      refine FW.exit (inBlockF_miss rfl (thenF_exit (inBlockF_miss rfl (thenF_exit (inBlockF_hit (?_))))))
      refine ret_none  Try.results38 (.inr rfl) ?_
      have hA113 : RowSt 92 57 43 B w105 C87 g s (wt ++ x.lines) := .snoc hs20 hg21 hst22_107 hm25_111 hr026_101 hl027 hx28_100 hox29_109 hs88 ow89_110 nb95.symm
      exact ⟨C87, rfl, hE_108, by first | (rw [rTake_in (by omega)]; exact hA113) | (rw [rTake_keep (by omega) (by omega)]; exact hA113) | (rw [rTake_else (by omega) (by omega)]; exact hA113)⟩
  · have hp114 : ¬ (x.do_ = 3) := of_decide_eq_false hc17
    refine FW.skip (hK7 _ _ ?_)
    clear hK7 K7
    refine FW.seq_k fun K10 hK10 => ?_
    refine FW.region rfl ?_
    refine FWl.val 9 rfl rfl (Value.bool (decide (x.do_ = 1))) _ (r_eql rfl rfl) ?_
    refine FWl.val 8 rfl rfl (Value.bool (decide (x.do_ = 1))) _ (r_assign) ?_
    refine FWl.nil (hK10 _ _ ?_)
    clear hK10 K10
    refine FW.cond (decide (x.do_ = 1)) rfl (fun hc115 => ?_) (fun hc115 => ?_)
    · have hp116 : x.do_ = 1 := of_decide_eq_true hc115
      refine FW.exit (thenF_exit (inBlockF_miss rfl (thenF_exit (inBlockF_hit (hK4 _ _ ?_)))))
      clear hK4 K4 hK5 K5 hK6 K6
      refine FW.seq_k fun K11 hK11 => ?_
      refine FW.region rfl ?_
      refine FWl.val 20 rfl rfl (Value.pointer (some ⟨g2, 1, none⟩)) _ (r_fieldAddrS Try.underlying57 rfl Try.sizeOf22 rfl rfl rfl rfl) ?_
      refine FWl.val 21 rfl rfl (Value.slice A x.lines.length c) _ (r_loadP1 Try.isAgg22 hcg12 rfl rfl hH15) ?_
      refine FWl.val 22 rfl rfl (Value.int .i64 ((x.lines.length : Nat) : Int)) _ (r_lenSl Try.underlying22 rfl) ?_
      refine FWl.val 23 rfl rfl (Value.bool (decide (0 < ((x.lines.length : Nat) : Int)))) _ (r_gtr rfl rfl) ?_
      refine FWl.nil (hK11 _ _ ?_)
      clear hK11 K11
      refine FW.cond (decide (0 < ((x.lines.length : Nat) : Int))) rfl (fun hc117 => ?_) (fun hc117 => ?_)
      · have hp118 : 0 < ((x.lines.length : Nat) : Int) := of_decide_eq_true hc117
        refine FW.region rfl ?_
        refine FWl.val 24 rfl rfl (Value.pointer (some ⟨g, 0, none⟩)) _ (r_move) ?_
        have hA119 := h.call ha1_14
        refine FWl.call 25 rfl rfl 39 #[Value.pointer (some ⟨g, 0, none⟩)] (r_call1 Try.call39 rfl rfl) ((flush_c hH15 hA119 (by omega) (by omega)).mono ?_)
        rintro _ w120 ⟨C121, rfl, e122, hR123⟩
        have hE_124 := hE_13.trans e122
        have hx_125 := hx_16.mono e122.le
        have hcg12_126 := hcg12.mono e122.le
        have hH127 := e122.has
        have ha128 := Ext.refl (B := w120.heap.size) hH127
        refine FWl.nil (hK3 _ _ ?_)
        clear hK3 K3
        refine FW.seq_k fun K12 hK12 => ?_
        refine FW.region rfl ?_
        refine FWl.val 26 rfl rfl (Value.pointer (some ⟨g, 0, none⟩)) _ (r_move) ?_
        refine FWl.val 27 rfl rfl (Value.pointer (some ⟨g2, 0, none⟩)) _ (r_fieldAddrS Try.underlying57 rfl Try.sizeOf55 rfl rfl rfl rfl) ?_
        refine FWl.val 28 rfl rfl (Value.int .i64 x.do_) _ (r_loadP1 Try.isAgg55 hcg12_126 rfl rfl hH127) ?_
        refine FWl.val 29 rfl rfl (Value.pointer (some ⟨g2, 1, none⟩)) _ (r_fieldAddrS Try.underlying57 rfl Try.sizeOf22 rfl rfl rfl rfl) ?_
        refine FWl.val 30 rfl rfl (Value.slice A x.lines.length c) _ (r_loadP1 Try.isAgg22 hcg12_126 rfl rfl hH127) ?_
        have hA129 := hR123.call ha128
        refine FWl.call 31 rfl rfl 60 #[Value.pointer (some ⟨g, 0, none⟩), Value.int .i64 x.do_, Value.slice A x.lines.length c] (r_call3 Try.call60 rfl rfl rfl rfl) ((add_c (d := x.do_) hH127 hA129 hx_125 (by (try simp only [rAdd_total]); omega) (by have := rAdd_len s 3 wt; omega)).mono ?_)
        rintro _ w130 ⟨C131, rfl, e132, hR133⟩
        have hE_134 := hE_124.trans e132
        have hH137 := e132.has
        have ha138 := Ext.refl (B := w130.heap.size) hH137
        refine FWl.nil (hK12 _ _ ?_)
        clear hK12 K12
        refine FW.exit (inBlockF_hit (?_))
        refine ret_none  Try.results38 (.inr rfl) ?_
        have hA139 := hR133.call ha138
        exact ⟨C131, rfl, hE_134, by first | (rw [rTake_in (by omega)]; exact hA139) | (rw [rTake_keep (by omega) (by omega)]; exact hA139) | (rw [rTake_else (by omega) (by omega)]; exact hA139)⟩
      · have hp140 : ¬ (0 < ((x.lines.length : Nat) : Int)) := of_decide_eq_false hc117
        refine FW.skip (hK3 _ _ ?_)
        clear hK3 K3
        refine FW.seq_k fun K13 hK13 => ?_
        refine FW.region rfl ?_
        refine FWl.val 26 rfl rfl (Value.pointer (some ⟨g, 0, none⟩)) _ (r_move) ?_
        refine FWl.val 27 rfl rfl (Value.pointer (some ⟨g2, 0, none⟩)) _ (r_fieldAddrS Try.underlying57 rfl Try.sizeOf55 rfl rfl rfl rfl) ?_
        refine FWl.val 28 rfl rfl (Value.int .i64 x.do_) _ (r_loadP1 Try.isAgg55 hcg12 rfl rfl hH15) ?_
        refine FWl.val 29 rfl rfl (Value.pointer (some ⟨g2, 1, none⟩)) _ (r_fieldAddrS Try.underlying57 rfl Try.sizeOf22 rfl rfl rfl rfl) ?_
        refine FWl.val 30 rfl rfl (Value.slice A x.lines.length c) _ (r_loadP1 Try.isAgg22 hcg12 rfl rfl hH15) ?_
        have hA141 := h.call ha1_14
        refine FWl.call 31 rfl rfl 60 #[Value.pointer (some ⟨g, 0, none⟩), Value.int .i64 x.do_, Value.slice A x.lines.length c] (r_call3 Try.call60 rfl rfl rfl rfl) ((add_c (d := x.do_) hH15 hA141 hx_16 (by (try simp only [rAdd_total]); omega) (by have := rAdd_len s 3 wt; omega)).mono ?_)
        rintro _ w142 ⟨C143, rfl, e144, hR145⟩
        have hE_146 := hE_13.trans e144
        have hH149 := e144.has
        have ha150 := Ext.refl (B := w142.heap.size) hH149
        refine FWl.nil (hK13 _ _ ?_)
        clear hK13 K13
        refine FW.exit (inBlockF_hit (?_))
        refine ret_none  Try.results38 (.inr rfl) ?_
        have hA151 := hR145.call ha150
        exact ⟨C143, rfl, hE_146, by first | (rw [rTake_in (by omega)]; exact hA151) | (rw [rTake_keep (by omega) (by omega)]; exact hA151) | (rw [rTake_else (by omega) (by omega)]; exact hA151)⟩
    · have hp152 : ¬ (x.do_ = 1) := of_decide_eq_false hc115
      refine FW.skip (hK6 _ _ ?_)
      clear hK6 K6
      refine FW.exit (inBlockF_miss rfl (thenF_exit (inBlockF_miss rfl (thenF_exit (inBlockF_hit (hK3 _ _ ?_))))))
      clear hK3 K3 hK4 K4 hK5 K5
      refine FW.seq_k fun K14 hK14 => ?_
      refine FW.region rfl ?_
      refine FWl.val 26 rfl rfl (Value.pointer (some ⟨g, 0, none⟩)) _ (r_move) ?_
      refine FWl.val 27 rfl rfl (Value.pointer (some ⟨g2, 0, none⟩)) _ (r_fieldAddrS Try.underlying57 rfl Try.sizeOf55 rfl rfl rfl rfl) ?_
      refine FWl.val 28 rfl rfl (Value.int .i64 x.do_) _ (r_loadP1 Try.isAgg55 hcg12 rfl rfl hH15) ?_
      refine FWl.val 29 rfl rfl (Value.pointer (some ⟨g2, 1, none⟩)) _ (r_fieldAddrS Try.underlying57 rfl Try.sizeOf22 rfl rfl rfl rfl) ?_
      refine FWl.val 30 rfl rfl (Value.slice A x.lines.length c) _ (r_loadP1 Try.isAgg22 hcg12 rfl rfl hH15) ?_
      have hA153 := h.call ha1_14
      refine FWl.call 31 rfl rfl 60 #[Value.pointer (some ⟨g, 0, none⟩), Value.int .i64 x.do_, Value.slice A x.lines.length c] (r_call3 Try.call60 rfl rfl rfl rfl) ((add_c (d := x.do_) hH15 hA153 hx_16 (by (try simp only [rAdd_total]); omega) (by have := rAdd_len s 3 wt; omega)).mono ?_)
      rintro _ w154 ⟨C155, rfl, e156, hR157⟩
      have hE_158 := hE_13.trans e156
      have hH161 := e156.has
      have ha162 := Ext.refl (B := w154.heap.size) hH161
      refine FWl.nil (hK14 _ _ ?_)
      clear hK14 K14
      refine FW.exit (inBlockF_hit (?_))
      refine ret_none  Try.results38 (.inr rfl) ?_
      have hA163 := hR157.call ha162
      exact ⟨C155, rfl, hE_158, by first | (rw [rTake_in (by omega)]; exact hA163) | (rw [rTake_keep (by omega) (by omega)]; exact hA163) | (rw [rTake_else (by omega) (by omega)]; exact hA163)⟩

theorem normal_c {A : Option Addr} {c : Nat} {s : List Edit} {w : World} {C : Gh} (hH : Has w C) (hs : Sl kEdit C A c s) (ok : okS s) : Ret Try.prog 19 #[.slice A s.length c] w fun v w' => ∃ (C' : Gh) (A' : Option Addr) (c' : Nat), v = .slice A' (normalS s).length c' ∧ Ext w.heap.size w C w' C' ∧ Sl kEdit C' A' c' (normalS s) := by
  refine Ret.of Try.func19 rfl Try.ntmps19 rfl ?_
  have hE := Ext.refl (B := w.heap.size) hH
  have bd := hs.bd
  have hok1 := ok.len
  have hok2 := ok.tot
  refine FW.seq_k fun K1 hK1 => ?_
  refine FW.region rfl ?_
  refine FWl.val 2 rfl rfl (Value.slice none 0 0) _ (r_assign) ?_
  refine FWl.nil (hK1 _ _ ?_)
  clear hK1 K1
  refine FW.seq_k fun K2 hK2 => ?_
  refine FW.region rfl ?_
  refine FWl.val 6 rfl rfl (Value.agg #[Value.slice none 0 0, Value.slice none 0 0]) _ (r_build (by kernel_rfl)) ?_
  refine FWl.box (cs := [Value.slice none 0 0, Value.slice none 0 0]) rfl rfl rfl rfl rfl hH ?_
  intro g1 w2 st3 e4 hg5
  have hge_st3_hE := Nat.le_trans hE.size (Nat.le_of_eq hg5)
  have hE_6 := hE.step e4
  have hH7 := e4.has
  have hlt_st3 := st3.lt
  refine FWl.val 3 rfl rfl (Value.pointer (some ⟨g1, 0, none⟩)) _ (r_assign) ?_
  refine FWl.nil (hK2 _ _ ?_)
  clear hK2 K2
  refine FW.seq_k fun K3 hK3 => ?_
  refine FW.seq_k fun K4 hK4 => ?_
  refine FW.region rfl ?_
  refine FWl.val 8 rfl rfl (Value.slice A s.length c) _ (r_move) ?_
  refine FWl.val 9 rfl rfl (Value.int .i64 ((s.length : Nat) : Int)) _ (r_lenSl Try.underlying26 rfl) ?_
  refine FWl.val 10 rfl rfl (Value.int .i64 0) _ (r_move) ?_
  refine FWl.nil (hK4 _ _ ?_)
  clear hK4 K4
  refine FW.block ?_
  have hR08 : RowSt 92 57 43 w.heap.size w2 C g1 ([]) ([]) := .nil rfl hge_st3_hE st3 (Sl.nil _ _ _ _) Own.nil
  have ha9 := Ext.refl (B := w2.heap.size) hH7
  refine FW.loop_m (fun msr T w10 => ∃ (C11 : Gh) (k : Nat), Holds T [(0, Value.slice A s.length c), (2, Value.slice none 0 0), (3, Value.pointer (some ⟨g1, 0, none⟩)), (6, Value.agg #[Value.slice none 0 0, Value.slice none 0 0]), (7, Value.pointer (some ⟨g1, 0, none⟩)), (8, Value.slice A s.length c), (9, Value.int .i64 ((s.length : Nat) : Int)), (10, Value.int .i64 (k : Int))] ∧ Ext (w.heap.size) w2 C w10 C11 ∧ (k ≤ s.length) ∧ (RowSt 92 57 43 w.heap.size w10 C11 g1 (((s.take k).foldl rTake ([], [])).1) (((s.take k).foldl rTake ([], [])).2)) ∧ msr = s.length - k) (s.length - 0) ?_ ?_
  · exact ⟨C, 0, ⟨rfl, rfl, rfl, rfl, rfl, rfl, rfl, rfl, trivial⟩, Ext.refl hH7, Nat.zero_le _, by simpa using hR08, rfl⟩
  · rintro msr T w10 ⟨C11, k, hT, hL1, hk, hR, rfl⟩
    refine FW.frame hT fun B1 => ?_
    have hE_12 := hE_6.trans hL1
    have hs_13 := hs.mono hL1.le
    have hH14 := hL1.has
    have ha15 := Ext.refl (B := w10.heap.size) hH14
    have hft := foldTake_total s k
    have hfl := foldTake_len s k
    have htk := total_take_le s k
    have hlk : (s.take k).length ≤ s.length := by simp [List.length_take]; omega
    refine FW.seq_k fun K5 hK5 => ?_
    refine FW.region rfl ?_
    refine FWl.val 11 rfl rfl (Value.bool (decide ((k : Int) < ((s.length : Nat) : Int)))) _ (r_lss rfl rfl) ?_
    refine FWl.nil (hK5 _ _ ?_)
    clear hK5 K5
    refine FW.seq_k fun K6 hK6 => ?_
    refine FW.cond (decide ((k : Int) < ((s.length : Nat) : Int))) rfl (fun hc16 => ?_) (fun hc16 => ?_)
    · have hp17 : (k : Int) < ((s.length : Nat) : Int) := of_decide_eq_true hc16
      refine FW.skip (hK6 _ _ ?_)
      clear hK6 K6
      refine FW.seq_k fun K7 hK7 => ?_
      refine FW.block ?_
      refine FW.seq_k fun K8 hK8 => ?_
      refine FW.region rfl ?_
      obtain ⟨x18, hx19⟩ := get_some (xs := s) (j := k) (by omega)
      obtain ⟨cs20, hr21, hg22⟩ := hs_13.at_ _ _ hx19
      obtain ⟨A23, c24, rfl, hs25⟩ := hr21
      have htt := total_take_le s (k + 1)
      rw [total_take hx19] at htt
      refine FWl.val 12 rfl rfl (ptrAt A (((k : Int)).toNat * 2)) _ (r_indexAddr Try.underlying26 Try.sizeOf57 rfl rfl (hs_13.isSome (by omega)) (by omega) (by omega)) ?_
      refine FWl.val 13 rfl rfl (Value.agg #[Value.int .i64 x18.do_, Value.slice A23 x18.lines.length c24]) _ (r_loadGN Try.isAgg57 Try.sizeOf57 hg22 rfl hH14) ?_
      refine FWl.alloc (cs := [Value.int .i64 0, Value.slice none 0 0]) rfl rfl rfl Try.zeroValue57 rfl hH14 ?_
      intro g26 w27 st28 e29 hg30
      have hge_st28_hE := Nat.le_trans hE_12.size (Nat.le_of_eq hg30)
      have hge_st28_ha15 := Nat.le_trans ha15.size (Nat.le_of_eq hg30)
      have hge_st28_hL1 := Nat.le_trans hL1.size (Nat.le_of_eq hg30)
      have hE_31 := hE_12.step e29
      have ha15_32 := ha15.step e29
      have hL1_33 := hL1.trans (e29.mono hE_12.size)
      have hH34 := e29.has
      have hlt_st28 := st28.lt
      refine FWl.store (vs := [Value.int .i64 x18.do_, Value.slice A23 x18.lines.length c24]) (cs' := [Value.int .i64 x18.do_, Value.slice A23 x18.lines.length c24]) rfl rfl rfl Try.sizeOf57 rfl st28 hH34 rfl rfl rfl rfl rfl rfl ?_
      intro w35 m36 st28_37
      have hE_38 := hE_31.trans (m36.ext hE_31.size (by omega))
      have ha15_39 := ha15_32.trans (m36.ext ha15_32.size (by omega))
      have hL1_40 := hL1_33.trans (m36.ext hE_31.size (by omega))
      have hH41 := m36.has
      obtain ⟨C42, m43, hcg44⟩ := st28_37.commit hH41
      have ha15_46 := ha15_39.trans (m43.ext ha15_39.size (by omega))
      have hL1_47 := hL1_40.trans (m43.ext hE_38.size (by omega))
      have hH48 := m43.has
      have hs25_51 := hs25.mono m43.le
      refine FWl.nil (hK8 _ _ ?_)
      clear hK8 K8
      refine FW.region rfl ?_
      refine FWl.val 14 rfl rfl (Value.pointer (some ⟨g1, 0, none⟩)) _ (r_move) ?_
      refine FWl.val 15 rfl rfl (Value.agg #[Value.int .i64 x18.do_, Value.slice A23 x18.lines.length c24]) _ (r_loadPN Try.isAgg57 Try.sizeOf57 hcg44 rfl hH48) ?_
      have hA52 := hR.call ha15_46
      refine FWl.call 16 rfl rfl 38 #[Value.pointer (some ⟨g1, 0, none⟩), Value.agg #[Value.int .i64 x18.do_, Value.slice A23 x18.lines.length c24]] (r_call2 Try.call38 rfl rfl rfl) ((take_c (x := x18) hH48 hA52 hs25_51 (by omega) (by omega)).mono ?_)
      rintro _ w53 ⟨C54, rfl, e55, hR56⟩
      have hL1_58 := hL1_47.trans e55
      have hH63 := e55.has
      have ha64 := Ext.refl (B := w53.heap.size) hH63
      refine FWl.nil (hK7 _ _ ?_)
      clear hK7 K7
      refine FW.region rfl ?_
      refine FWl.val 17 rfl rfl (Value.int .i64 ((k : Int) + 1)) _ (r_addI rfl rfl (by omega) (by omega)) ?_
      refine FWl.val 10 rfl rfl (Value.int .i64 ((k : Int) + 1)) _ (r_move) ?_
      refine FWl.nil (thenF_norm (?_))
      have hA65 := hR56.call ha64
      refine ⟨_, ⟨C54, k + 1, ⟨rfl, rfl, rfl, rfl, rfl, rfl, rfl, rfl, trivial⟩, hL1_58, by omega, by rw [foldl_take (by assumption)]; exact hA65, rfl⟩, ?_⟩
      omega
    · have hp66 : ¬ ((k : Int) < ((s.length : Nat) : Int)) := of_decide_eq_false hc16
      refine FW.exit (thenF_exit (thenF_exit (inBlockF_hit (hK3 _ _ ?_))))
      clear hK3 K3 hK6 K6
      refine FW.seq_k fun K9 hK9 => ?_
      refine FW.region rfl ?_
      refine FWl.val 18 rfl rfl (Value.pointer (some ⟨g1, 0, none⟩)) _ (r_move) ?_
      have hA67 := hR.call ha15
      refine FWl.call 19 rfl rfl 39 #[Value.pointer (some ⟨g1, 0, none⟩)] (r_call1 Try.call39 rfl rfl) ((flush_c hH14 hA67 (by omega) (by omega)).mono ?_)
      rintro _ w68 ⟨C69, rfl, e70, hR71⟩
      have hE_72 := hE_12.trans e70
      have hH74 := e70.has
      have ha75 := Ext.refl (B := w68.heap.size) hH74
      refine FWl.nil (hK9 _ _ ?_)
      clear hK9 K9
      refine FW.seq_k fun K10 hK10 => ?_
      have hA76 := hR71.call ha75
      cases hA76 with
      | @nil Aw88 cw89 hs77 hg78 hst79 hw80 how81 =>
        have hm82 : MRow w.heap.size 57 2 w68 C69 none 0 [] := MRow.nil
        have hlt_hst79 := hst79.lt
        refine FW.region rfl ?_
        refine FWl.val 20 rfl rfl (Value.pointer (some ⟨g1, 0, none⟩)) _ (r_move) ?_
        refine FWl.val 21 rfl rfl (Value.pointer (some ⟨g1, 0, none⟩)) _ (r_nilCheck rfl) ?_
        refine FWl.val 22 rfl rfl (Value.pointer (some ⟨g1, 0, none⟩)) _ (r_fieldAddrS Try.underlying92 rfl Try.sizeOf26 rfl rfl rfl rfl) ?_
        refine FWl.val 23 rfl rfl (Value.slice none 0 0) _ (r_load1 Try.isAgg26 rfl (hst79.cell rfl)) ?_
        refine FWl.val 2 rfl rfl (Value.slice none 0 0) _ (r_assign) ?_
        refine FWl.nil (hK10 _ _ ?_)
        clear hK10 K10
        refine FW.ret (?_)
        refine ret_tmp (v := Value.slice none 0 0) Try.results19 (.inl rfl) rfl ?_
        have hsk : s.take k = s := List.take_of_length_le (by omega)
        have hn : normalS s = rAdd (((s.take k).foldl rTake ([], [])).1) 3 (((s.take k).foldl rTake ([], [])).2) := by simp only [normalS, hsk]
        rw [hs77] at hn
        exact ⟨C69, none, 0, by rw [hn]; rfl, hE_72, by rw [hn]; exact Sl.nil _ _ _ _⟩
      | @snoc As90 Aw88 A91 cs92 cw89 c93 rows094 s095 x96 hs77 hg78 hst79 hm82 hr083 hl084 hx85 hox86 hw80 how81 hn87 =>
        have hlt_hst79 := hst79.lt
        have hln_hm82 : (rows094 ++ [[Value.int .i64 x96.do_, Value.slice A91 x96.lines.length c93]]).length = rows094.length + 1 := by simp
        refine FW.region rfl ?_
        refine FWl.val 20 rfl rfl (Value.pointer (some ⟨g1, 0, none⟩)) _ (r_move) ?_
        refine FWl.val 21 rfl rfl (Value.pointer (some ⟨g1, 0, none⟩)) _ (r_nilCheck rfl) ?_
        refine FWl.val 22 rfl rfl (Value.pointer (some ⟨g1, 0, none⟩)) _ (r_fieldAddrS Try.underlying92 rfl Try.sizeOf26 rfl rfl rfl rfl) ?_
        refine FWl.val 23 rfl rfl (Value.slice As90 ((rows094 ++ [[Value.int .i64 x96.do_, Value.slice A91 x96.lines.length c93]]).length) cs92) _ (r_load1 Try.isAgg26 rfl (hst79.cell rfl)) ?_
        refine FWl.val 2 rfl rfl (Value.slice As90 ((rows094 ++ [[Value.int .i64 x96.do_, Value.slice A91 x96.lines.length c93]]).length) cs92) _ (r_assign) ?_
        refine FWl.nil (hK10 _ _ ?_)
        clear hK10 K10
        refine FW.ret (?_)
        refine ret_tmp (v := Value.slice As90 ((rows094 ++ [[Value.int .i64 x96.do_, Value.slice A91 x96.lines.length c93]]).length) cs92) Try.results19 (.inl rfl) rfl ?_
        have hsk : s.take k = s := List.take_of_length_le (by omega)
        have hn : normalS s = rAdd (((s.take k).foldl rTake ([], [])).1) 3 (((s.take k).foldl rTake ([], [])).2) := by simp only [normalS, hsk]
        rw [hs77] at hn
        have hl := normalS_len s
        have hrl : (rows094 ++ [[Value.int .i64 x96.do_, Value.slice A91 x96.lines.length c93]]).length = (normalS s).length := by rw [hn]; simp [hl084]
        obtain ⟨C2, e2, h2, _⟩ := hm82.toSl (K := kEdit) (xs := normalS s) rfl (by rw [hn]; exact rowR_snoc hr083 hx85) hrl (by omega) hH74 (by have := hE_72.size; omega)
        exact ⟨C2, _, _, by rw [← hrl], hE_72.trans e2, h2⟩

theorem Normal_c {A : Option Addr} {c : Nat} {s : List Edit} {w : World} {C : Gh} (hH : Has w C) (hs : Sl kEdit C A c s) (ok : okS s) : Ret Try.prog 27 #[Value.slice A s.length c] w fun v w' => ∃ (C' : Gh) (A' : Option Addr) (c' : Nat), v = Value.tuple #[Value.slice A' ((normalS s).length) c', Value.int .i64 0] ∧ Ext w.heap.size w C w' C' ∧ Sl kEdit C' A' c' (normalS s) := by
  refine Ret.of Try.func27 rfl Try.ntmps27 rfl ?_
  have hE := Ext.refl (B := w.heap.size) hH
  have bd_hs := hs.bd
  refine FW.seq_k fun K1 hK1 => ?_
  refine FW.region rfl ?_
  refine FWl.val 2 rfl rfl (Value.slice none 0 0) _ (r_assign) ?_
  refine FWl.val 3 rfl rfl (Value.int .i64 0) _ (r_assign) ?_
  refine FWl.nil (hK1 _ _ ?_)
  clear hK1 K1
  refine FW.seq_k fun K2 hK2 => ?_
  refine FW.seq_k fun K3 hK3 => ?_
  refine FW.region rfl ?_
  refine FWl.val 5 rfl rfl (Value.slice A s.length c) _ (r_move) ?_
  refine FWl.call 6 rfl rfl 40 #[Value.slice A s.length c] (r_call1 Try.call40 rfl rfl) ((check_c hH hs ok).mono ?_)
  rintro _ w1 ⟨C2, rfl, e3⟩
  have hE_4 := hE.step e3
  have hs_5 := hs.mono e3.le
  have hH6 := e3.has
  refine FWl.val 4 rfl rfl (Value.int .i64 0) _ (r_assign) ?_
  refine FWl.nil (hK3 _ _ ?_)
  clear hK3 K3
  refine FW.seq_k fun K4 hK4 => ?_
  refine FW.region rfl ?_
  refine FWl.val 7 rfl rfl (Value.int .i64 0) _ (r_move) ?_
  refine FWl.val 8 rfl rfl (Value.bool false) _ (r_neq (a := 0) (b := 0) rfl rfl) ?_
  refine FWl.nil (hK4 _ _ ?_)
  clear hK4 K4
  refine FW.cond false rfl (fun h => nomatch h) (fun _ => ?_)
  refine FW.skip (hK2 _ _ ?_)
  clear hK2 K2
  refine FW.seq_k fun K5 hK5 => ?_
  refine FW.region rfl ?_
  refine FWl.val 10 rfl rfl (Value.slice A s.length c) _ (r_move) ?_
  refine FWl.call 11 rfl rfl 19 #[Value.slice A s.length c] (r_call1 Try.call19 rfl rfl) ((normal_c hH6 hs_5 ok).mono ?_)
  rintro _ w7 ⟨C8, A10, c11, rfl, e9, h12⟩
  have hE_13 := hE_4.step e9
  refine FWl.val 2 rfl rfl (Value.slice A10 ((normalS s).length) c11) _ (r_assign) ?_
  refine FWl.val 3 rfl rfl (Value.int .i64 0) _ (r_assign) ?_
  refine FWl.nil (hK5 _ _ ?_)
  clear hK5 K5
  refine FW.ret (?_)
  refine ret_tmp2 (v := Value.slice A10 ((normalS s).length) c11) (v' := Value.int .i64 0) Try.results27 (.inl rfl) rfl rfl ?_
  exact ⟨C8, A10, c11, rfl, hE_13, h12⟩

theorem Sides_c {A : Option Addr} {c : Nat} {s : List Edit} {w : World} {C : Gh} (hH : Has w C) (hs : Sl kEdit C A c s) (ok : okS s) : Ret Try.prog 20 #[Value.slice A s.length c] w fun v w' => ∃ (C' : Gh) (A1 : Option Addr) (c1 : Nat) (A2 : Option Addr) (c2 : Nat), v = Value.tuple #[Value.slice A1 ((oldS s).length) c1, Value.slice A2 ((newS s).length) c2, Value.int .i64 0] ∧ Ext w.heap.size w C w' C' ∧ Sl kLine C' A1 c1 (oldS s) ∧ Sl kLine C' A2 c2 (newS s) := by
  refine Ret.of Try.func20 rfl Try.ntmps20 rfl ?_
  have hE := Ext.refl (B := w.heap.size) hH
  have bd_hs := hs.bd
  refine FW.seq_k fun K1 hK1 => ?_
  refine FW.region rfl ?_
  refine FWl.val 2 rfl rfl (Value.slice none 0 0) _ (r_assign) ?_
  refine FWl.val 3 rfl rfl (Value.slice none 0 0) _ (r_assign) ?_
  refine FWl.val 4 rfl rfl (Value.int .i64 0) _ (r_assign) ?_
  refine FWl.nil (hK1 _ _ ?_)
  clear hK1 K1
  refine FW.seq_k fun K2 hK2 => ?_
  refine FW.seq_k fun K3 hK3 => ?_
  refine FW.region rfl ?_
  refine FWl.val 8 rfl rfl (Value.slice A s.length c) _ (r_move) ?_
  refine FWl.call 9 rfl rfl 40 #[Value.slice A s.length c] (r_call1 Try.call40 rfl rfl) ((check_c hH hs ok).mono ?_)
  rintro _ w1 ⟨C2, rfl, e3⟩
  have hE_4 := hE.step e3
  have hs_5 := hs.mono e3.le
  have hH6 := e3.has
  refine FWl.val 5 rfl rfl (Value.int .i64 0) _ (r_assign) ?_
  refine FWl.nil (hK3 _ _ ?_)
  clear hK3 K3
  refine FW.seq_k fun K4 hK4 => ?_
  refine FW.region rfl ?_
  refine FWl.val 10 rfl rfl (Value.int .i64 0) _ (r_move) ?_
  refine FWl.val 11 rfl rfl (Value.bool false) _ (r_neq (a := 0) (b := 0) rfl rfl) ?_
  refine FWl.nil (hK4 _ _ ?_)
  clear hK4 K4
  refine FW.cond false rfl (fun h => nomatch h) (fun _ => ?_)
  refine FW.skip (hK2 _ _ ?_)
  clear hK2 K2
  refine FW.seq_k fun K5 hK5 => ?_
  refine FW.region rfl ?_
  refine FWl.val 14 rfl rfl (Value.slice A s.length c) _ (r_move) ?_
  refine FWl.call 15 rfl rfl 41 #[Value.slice A s.length c] (r_call1 Try.call41 rfl rfl) ((sides_c hH6 hs_5 ok).mono ?_)
  rintro _ w7 ⟨C8, A10, c11, A12, c13, rfl, e9, h14, h15⟩
  have hE_16 := hE_4.step e9
  refine FWl.val 13 rfl rfl (Value.tuple #[Value.slice A10 ((oldS s).length) c11, Value.slice A12 ((newS s).length) c13]) _ (r_move) ?_
  refine FWl.val 16 rfl rfl (Value.slice A10 ((oldS s).length) c11) _ (r_extract rfl rfl) ?_
  refine FWl.val 17 rfl rfl (Value.slice A12 ((newS s).length) c13) _ (r_extract rfl rfl) ?_
  refine FWl.val 6 rfl rfl (Value.slice A10 ((oldS s).length) c11) _ (r_assign) ?_
  refine FWl.val 7 rfl rfl (Value.slice A12 ((newS s).length) c13) _ (r_assign) ?_
  refine FWl.nil (hK5 _ _ ?_)
  clear hK5 K5
  refine FW.seq_k fun K6 hK6 => ?_
  refine FW.region rfl ?_
  refine FWl.val 18 rfl rfl (Value.slice A10 ((oldS s).length) c11) _ (r_move) ?_
  refine FWl.val 19 rfl rfl (Value.slice A12 ((newS s).length) c13) _ (r_move) ?_
  refine FWl.val 2 rfl rfl (Value.slice A10 ((oldS s).length) c11) _ (r_assign) ?_
  refine FWl.val 3 rfl rfl (Value.slice A12 ((newS s).length) c13) _ (r_assign) ?_
  refine FWl.val 4 rfl rfl (Value.int .i64 0) _ (r_assign) ?_
  refine FWl.nil (hK6 _ _ ?_)
  clear hK6 K6
  refine FW.ret (?_)
  refine ret_tmp3 (v := Value.slice A10 ((oldS s).length) c11) (v' := Value.slice A12 ((newS s).length) c13) (v'' := Value.int .i64 0) Try.results20 (.inl rfl) rfl rfl rfl ?_
  exact ⟨C8, A10, c11, A12, c13, rfl, hE_16, h14, h15⟩

theorem Changed_c {A : Option Addr} {c : Nat} {s : List Edit} {w : World} {C : Gh} (hH : Has w C) (hs : Sl kEdit C A c s) (ok : okS s) : Ret Try.prog 9 #[Value.slice A s.length c] w fun v w' => ∃ (C' : Gh), v = Value.int .i64 (changed s : Int) ∧ Ext w.heap.size w C w' C' := by
  refine Ret.of Try.func9 rfl Try.ntmps9 rfl ?_
  have hE := Ext.refl (B := w.heap.size) hH
  have bd_hs := hs.bd
  have hok1 := ok.len; have hok2 := ok.tot
  refine FW.seq_k fun K1 hK1 => ?_
  refine FW.region rfl ?_
  refine FWl.val 2 rfl rfl (Value.int .i64 0) _ (r_assign) ?_
  refine FWl.nil (hK1 _ _ ?_)
  clear hK1 K1
  refine FW.seq_k fun K2 hK2 => ?_
  refine FW.region rfl ?_
  refine FWl.val 3 rfl rfl (Value.int .i64 0) _ (r_assign) ?_
  refine FWl.nil (hK2 _ _ ?_)
  clear hK2 K2
  refine FW.seq_k fun K3 hK3 => ?_
  refine FW.seq_k fun K4 hK4 => ?_
  refine FW.region rfl ?_
  refine FWl.val 6 rfl rfl (Value.slice A s.length c) _ (r_move) ?_
  refine FWl.val 7 rfl rfl (Value.int .i64 ((s.length : Nat) : Int)) _ (r_lenSl Try.underlying26 rfl) ?_
  refine FWl.val 8 rfl rfl (Value.int .i64 0) _ (r_move) ?_
  refine FWl.nil (hK4 _ _ ?_)
  clear hK4 K4
  refine FW.block ?_
  refine FW.loop_m (fun msr T w1 => ∃ (C2 : Gh) (k : Nat) (n : Int), Holds T [(0, Value.slice A s.length c), (2, Value.int .i64 0), (3, Value.int .i64 n), (6, Value.slice A s.length c), (7, Value.int .i64 ((s.length : Nat) : Int)), (8, Value.int .i64 (k : Int))] ∧ Ext (w.heap.size) w C w1 C2 ∧ (k ≤ s.length) ∧ (n = (changed (s.take k) : Int)) ∧ msr = s.length - k) (s.length - 0) ?_ ?_
  · exact ⟨C, 0, 0, ⟨rfl, rfl, rfl, rfl, rfl, rfl, trivial⟩, Ext.refl hH, Nat.zero_le _, by simp [changed], rfl⟩
  · rintro msr T w1 ⟨C2, k, n, hT, hL1, hk, hn, rfl⟩
    refine FW.frame hT fun B1 => ?_
    have hE_3 := hE.step hL1
    have hs_4 := hs.mono hL1.le
    have hH5 := hL1.has
    have htk := total_take_le s k
    have hck := changed_len (s.take k)
    refine FW.seq_k fun K5 hK5 => ?_
    refine FW.region rfl ?_
    refine FWl.val 9 rfl rfl (Value.bool (decide ((k : Int) < ((s.length : Nat) : Int)))) _ (r_lss rfl rfl) ?_
    refine FWl.nil (hK5 _ _ ?_)
    clear hK5 K5
    refine FW.seq_k fun K6 hK6 => ?_
    refine FW.cond (decide ((k : Int) < ((s.length : Nat) : Int))) rfl (fun hc6 => ?_) (fun hc6 => ?_)
    · have hp7 : (k : Int) < ((s.length : Nat) : Int) := of_decide_eq_true hc6
      refine FW.skip (hK6 _ _ ?_)
      clear hK6 K6
      refine FW.seq_k fun K7 hK7 => ?_
      refine FW.block ?_
      refine FW.seq_k fun K8 hK8 => ?_
      refine FW.region rfl ?_
      obtain ⟨x8, hx9⟩ := get_some (xs := s) (j := k) (by omega)
      obtain ⟨cs10, hr11, hg12⟩ := hs_4.at_ _ _ hx9
      obtain ⟨A13, c14, rfl, hs15⟩ := hr11
      have htt := total_take_le s (k + 1)
      rw [total_take hx9] at htt
      refine FWl.val 10 rfl rfl (ptrAt A (((k : Int)).toNat * 2)) _ (r_indexAddr Try.underlying26 Try.sizeOf57 rfl rfl (hs_4.isSome (by omega)) (by omega) (by omega)) ?_
      refine FWl.val 11 rfl rfl (Value.agg #[Value.int .i64 x8.do_, Value.slice A13 x8.lines.length c14]) _ (r_loadGN Try.isAgg57 Try.sizeOf57 hg12 rfl hH5) ?_
      refine FWl.alloc (cs := [Value.int .i64 0, Value.slice none 0 0]) rfl rfl rfl Try.zeroValue57 rfl hH5 ?_
      intro g16 w17 st18 e19 hg20
      have hge_st18_hE := Nat.le_trans hE_3.size (Nat.le_of_eq hg20)
      have hge_st18_hL1 := Nat.le_trans hL1.size (Nat.le_of_eq hg20)
      have hL1_22 := hL1.step e19
      have hH23 := e19.has
      have hlt_st18 := st18.lt
      refine FWl.store (vs := [Value.int .i64 x8.do_, Value.slice A13 x8.lines.length c14]) (cs' := [Value.int .i64 x8.do_, Value.slice A13 x8.lines.length c14]) rfl rfl rfl Try.sizeOf57 rfl st18 hH23 rfl rfl rfl rfl rfl rfl ?_
      intro w24 m25 st18_26
      have hL1_28 := hL1_22.trans (m25.ext hL1_22.size (by omega))
      refine FWl.nil (hK8 _ _ ?_)
      clear hK8 K8
      refine FW.seq_k fun K9 hK9 => ?_
      refine FW.region rfl ?_
      refine FWl.val 12 rfl rfl (Value.pointer (some ⟨g16, 0, none⟩)) _ (r_fieldAddrS Try.underlying57 rfl Try.sizeOf55 rfl rfl rfl rfl) ?_
      refine FWl.val 13 rfl rfl (Value.int .i64 x8.do_) _ (r_load1 Try.isAgg55 rfl (st18_26.cell rfl)) ?_
      refine FWl.val 14 rfl rfl (Value.bool (decide (x8.do_ = 2))) _ (r_eql rfl rfl) ?_
      refine FWl.val 15 rfl rfl (Value.bool (decide (x8.do_ = 2))) _ (r_move) ?_
      cases hb30 : (decide (x8.do_ = 2)) with
      | true =>
        have hp31 : x8.do_ = 2 := of_decide_eq_true hb30
        refine FWl.skip 16 rfl rfl ?_
        refine FWl.skip 17 rfl rfl ?_
        refine FWl.skip 18 rfl rfl ?_
        refine FWl.val 19 rfl rfl (Value.bool true) _ (r_pick (t := true) rfl) ?_
        refine FWl.nil (hK9 _ _ ?_)
        clear hK9 K9
        refine FW.cond true rfl (fun _ => ?_) (fun h => nomatch h)
        refine FW.region rfl ?_
        refine FWl.val 20 rfl rfl (Value.int .i64 n) _ (r_move) ?_
        refine FWl.val 21 rfl rfl (Value.pointer (some ⟨g16, 1, none⟩)) _ (r_fieldAddrS Try.underlying57 rfl Try.sizeOf22 rfl rfl rfl rfl) ?_
        refine FWl.val 22 rfl rfl (Value.slice A13 x8.lines.length c14) _ (r_load1 Try.isAgg22 rfl (st18_26.cell rfl)) ?_
        refine FWl.val 23 rfl rfl (Value.int .i64 ((x8.lines.length : Nat) : Int)) _ (r_lenSl Try.underlying22 rfl) ?_
        refine FWl.val 24 rfl rfl (Value.int .i64 (n + ((x8.lines.length : Nat) : Int))) _ (r_addI rfl rfl (by omega) (by omega)) ?_
        refine FWl.val 3 rfl rfl (Value.int .i64 (n + ((x8.lines.length : Nat) : Int))) _ (r_assign) ?_
        refine FWl.nil (hK7 _ _ ?_)
        clear hK7 K7
        refine FW.region rfl ?_
        refine FWl.val 25 rfl rfl (Value.int .i64 ((k : Int) + 1)) _ (r_addI rfl rfl (by omega) (by omega)) ?_
        refine FWl.val 8 rfl rfl (Value.int .i64 ((k : Int) + 1)) _ (r_move) ?_
        refine FWl.nil (thenF_norm (?_))
        refine ⟨_, ⟨C2, k + 1, _, ⟨rfl, rfl, rfl, rfl, rfl, rfl, trivial⟩, hL1_28, by omega, by rw [changed_take (by assumption), hn]; first | rw [if_pos (by omega)]; omega | rw [if_neg (by omega)]; omega, rfl⟩, ?_⟩
        omega
      | false =>
        have hp32 : ¬ (x8.do_ = 2) := of_decide_eq_false hb30
        refine FWl.val 16 rfl rfl (Value.pointer (some ⟨g16, 0, none⟩)) _ (r_fieldAddrS Try.underlying57 rfl Try.sizeOf55 rfl rfl rfl rfl) ?_
        refine FWl.val 17 rfl rfl (Value.int .i64 x8.do_) _ (r_load1 Try.isAgg55 rfl (st18_26.cell rfl)) ?_
        refine FWl.val 18 rfl rfl (Value.bool (decide (x8.do_ = 3))) _ (r_eql rfl rfl) ?_
        refine FWl.val 19 rfl rfl (Value.bool (decide (x8.do_ = 3))) _ (r_pick (t := false) rfl) ?_
        refine FWl.nil (hK9 _ _ ?_)
        clear hK9 K9
        refine FW.cond (decide (x8.do_ = 3)) rfl (fun hc33 => ?_) (fun hc33 => ?_)
        · have hp34 : x8.do_ = 3 := of_decide_eq_true hc33
          refine FW.region rfl ?_
          refine FWl.val 20 rfl rfl (Value.int .i64 n) _ (r_move) ?_
          refine FWl.val 21 rfl rfl (Value.pointer (some ⟨g16, 1, none⟩)) _ (r_fieldAddrS Try.underlying57 rfl Try.sizeOf22 rfl rfl rfl rfl) ?_
          refine FWl.val 22 rfl rfl (Value.slice A13 x8.lines.length c14) _ (r_load1 Try.isAgg22 rfl (st18_26.cell rfl)) ?_
          refine FWl.val 23 rfl rfl (Value.int .i64 ((x8.lines.length : Nat) : Int)) _ (r_lenSl Try.underlying22 rfl) ?_
          refine FWl.val 24 rfl rfl (Value.int .i64 (n + ((x8.lines.length : Nat) : Int))) _ (r_addI rfl rfl (by omega) (by omega)) ?_
          refine FWl.val 3 rfl rfl (Value.int .i64 (n + ((x8.lines.length : Nat) : Int))) _ (r_assign) ?_
          refine FWl.nil (hK7 _ _ ?_)
          clear hK7 K7
          refine FW.region rfl ?_
          refine FWl.val 25 rfl rfl (Value.int .i64 ((k : Int) + 1)) _ (r_addI rfl rfl (by omega) (by omega)) ?_
          refine FWl.val 8 rfl rfl (Value.int .i64 ((k : Int) + 1)) _ (r_move) ?_
          refine FWl.nil (thenF_norm (?_))
          refine ⟨_, ⟨C2, k + 1, _, ⟨rfl, rfl, rfl, rfl, rfl, rfl, trivial⟩, hL1_28, by omega, by rw [changed_take (by assumption), hn]; first | rw [if_pos (by omega)]; omega | rw [if_neg (by omega)]; omega, rfl⟩, ?_⟩
          omega
        · have hp35 : ¬ (x8.do_ = 3) := of_decide_eq_false hc33
          refine FW.skip (hK7 _ _ ?_)
          clear hK7 K7
          refine FW.region rfl ?_
          refine FWl.val 25 rfl rfl (Value.int .i64 ((k : Int) + 1)) _ (r_addI rfl rfl (by omega) (by omega)) ?_
          refine FWl.val 8 rfl rfl (Value.int .i64 ((k : Int) + 1)) _ (r_move) ?_
          refine FWl.nil (thenF_norm (?_))
          refine ⟨_, ⟨C2, k + 1, _, ⟨rfl, rfl, rfl, rfl, rfl, rfl, trivial⟩, hL1_28, by omega, by rw [changed_take (by assumption), hn]; first | rw [if_pos (by omega)]; omega | rw [if_neg (by omega)]; omega, rfl⟩, ?_⟩
          omega
    · have hp36 : ¬ ((k : Int) < ((s.length : Nat) : Int)) := of_decide_eq_false hc6
      refine FW.exit (thenF_exit (thenF_exit (inBlockF_hit (hK3 _ _ ?_))))
      clear hK3 K3 hK6 K6
      refine FW.seq_k fun K10 hK10 => ?_
      refine FW.region rfl ?_
      refine FWl.val 26 rfl rfl (Value.int .i64 n) _ (r_move) ?_
      refine FWl.val 2 rfl rfl (Value.int .i64 n) _ (r_assign) ?_
      refine FWl.nil (hK10 _ _ ?_)
      clear hK10 K10
      refine FW.ret (?_)
      refine ret_tmp (v := Value.int .i64 n) Try.results9 (.inl rfl) rfl ?_
      exact ⟨C2, by rw [hn, show s.take k = s from List.take_of_length_le (by omega)], hE_3⟩

theorem Apply_c {A A3 : Option Addr} {c c3 : Nat} {s : List Edit} {a : List Line} {w : World} {C : Gh} (hH : Has w C) (hs : Sl kEdit C A c s) (ha : Sl kLine C A3 c3 a) (ok : okS s) (hold : oldS s = a) : Ret Try.prog 7 #[Value.slice A s.length c, Value.slice A3 a.length c3] w fun v w' => ∃ (C' : Gh) (A2 : Option Addr) (c2 : Nat), v = Value.tuple #[Value.slice A2 ((newS s).length) c2, Value.int .i64 0] ∧ Ext w.heap.size w C w' C' ∧ Sl kLine C' A2 c2 (newS s) := by
  refine Ret.of Try.func7 rfl Try.ntmps7 rfl ?_
  have hE := Ext.refl (B := w.heap.size) hH
  have bd_hs := hs.bd
  have bd_ha := ha.bd
  refine FW.seq_k fun K1 hK1 => ?_
  refine FW.region rfl ?_
  refine FWl.val 4 rfl rfl (Value.slice none 0 0) _ (r_assign) ?_
  refine FWl.val 5 rfl rfl (Value.int .i64 0) _ (r_assign) ?_
  refine FWl.nil (hK1 _ _ ?_)
  clear hK1 K1
  refine FW.seq_k fun K2 hK2 => ?_
  refine FW.region rfl ?_
  refine FWl.val 10 rfl rfl (Value.slice A s.length c) _ (r_move) ?_
  refine FWl.call 11 rfl rfl 20 #[Value.slice A s.length c] (r_call1 Try.call20 rfl rfl) ((Sides_c hH hs ok).mono ?_)
  rintro _ w1 ⟨C2, A4, c5, A6, c7, rfl, e3, h8, h9⟩
  have hE_10 := hE.step e3
  have ha_12 := ha.mono e3.le
  have hH13 := e3.has
  refine FWl.val 9 rfl rfl (Value.tuple #[Value.slice A4 ((oldS s).length) c5, Value.slice A6 ((newS s).length) c7, Value.int .i64 0]) _ (r_move) ?_
  refine FWl.val 12 rfl rfl (Value.slice A4 ((oldS s).length) c5) _ (r_extract rfl rfl) ?_
  refine FWl.val 13 rfl rfl (Value.slice A6 ((newS s).length) c7) _ (r_extract rfl rfl) ?_
  refine FWl.val 14 rfl rfl (Value.int .i64 0) _ (r_extract rfl rfl) ?_
  refine FWl.val 6 rfl rfl (Value.slice A4 ((oldS s).length) c5) _ (r_assign) ?_
  refine FWl.val 7 rfl rfl (Value.slice A6 ((newS s).length) c7) _ (r_assign) ?_
  refine FWl.val 8 rfl rfl (Value.int .i64 0) _ (r_assign) ?_
  refine FWl.nil (hK2 _ _ ?_)
  clear hK2 K2
  refine FW.seq_k fun K3 hK3 => ?_
  refine FW.block ?_
  refine FW.seq_k fun K4 hK4 => ?_
  refine FW.region rfl ?_
  refine FWl.val 16 rfl rfl (Value.int .i64 0) _ (r_move) ?_
  refine FWl.val 17 rfl rfl (Value.bool false) _ (r_neq (a := 0) (b := 0) rfl rfl) ?_
  refine FWl.val 15 rfl rfl (Value.bool false) _ (r_assign) ?_
  refine FWl.nil (hK4 _ _ ?_)
  clear hK4 K4
  refine FW.cond false rfl (fun h => nomatch h) (fun _ => ?_)
  refine FW.seq_k fun K5 hK5 => ?_
  refine FW.region rfl ?_
  refine FWl.val 20 rfl rfl (Value.slice A4 ((oldS s).length) c5) _ (r_move) ?_
  refine FWl.val 21 rfl rfl (Value.slice A3 a.length c3) _ (r_move) ?_
  refine FWl.call 22 rfl rfl 21 #[Value.slice A4 ((oldS s).length) c5, Value.slice A3 a.length c3] (r_call2 Try.call21 rfl rfl rfl) ((equalLine_c hH13 h8 ha_12).mono ?_)
  rintro _ w14 ⟨rfl, e16⟩
  have hE_17 := hE_10.step e16
  refine FWl.val 23 rfl rfl (Value.bool (!(decide ((oldS s) = a)))) _ (r_not rfl) ?_
  refine FWl.val 19 rfl rfl (Value.bool (!(decide ((oldS s) = a)))) _ (r_assign) ?_
  refine FWl.nil (hK5 _ _ ?_)
  clear hK5 K5
  refine FW.cond (!(decide ((oldS s) = a))) rfl (fun hc19 => ?_) (fun hc19 => ?_)
  · have hp20 : ¬ ((oldS s) = a) := by simpa using hc19
    refine FW.seq_k fun K6 hK6 => ?_
    refine FW.region rfl ?_
    refine FWl.val 4 rfl rfl (Value.slice none 0 0) _ (r_assign) ?_
    refine FWl.val 5 rfl rfl (Value.int .i64 8) _ (r_assign) ?_
    refine FWl.nil (hK6 _ _ ?_)
    clear hK6 K6
    refine FW.ret (inBlockF_ret (thenF_ret (?_)))
    refine ret_tmp2 (v := Value.slice none 0 0) (v' := Value.int .i64 8) Try.results7 (.inl rfl) rfl rfl ?_
    exfalso; simp_all
  · have hp21 : (oldS s) = a := by simpa using hc19
    refine FW.skip (hK3 _ _ ?_)
    clear hK3 K3
    refine FW.seq_k fun K7 hK7 => ?_
    refine FW.region rfl ?_
    refine FWl.val 24 rfl rfl (Value.slice A6 ((newS s).length) c7) _ (r_move) ?_
    refine FWl.val 4 rfl rfl (Value.slice A6 ((newS s).length) c7) _ (r_assign) ?_
    refine FWl.val 5 rfl rfl (Value.int .i64 0) _ (r_assign) ?_
    refine FWl.nil (hK7 _ _ ?_)
    clear hK7 K7
    refine FW.ret (?_)
    refine ret_tmp2 (v := Value.slice A6 ((newS s).length) c7) (v' := Value.int .i64 0) Try.results7 (.inl rfl) rfl rfl ?_
    exact ⟨C2, A6, c7, rfl, hE_17, h9⟩

end Go.Proofs.Ytlofomkhiefbmaa
