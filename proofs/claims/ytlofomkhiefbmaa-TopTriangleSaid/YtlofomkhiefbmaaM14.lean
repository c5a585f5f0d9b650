/- Walks. -/
import Derived.Test.YtlofomkhiefbmaaJH
import Derived.Test.YtlofomkhiefbmaaJT
import Derived.Test.YtlofomkhiefbmaaJN
set_option maxRecDepth 10000
set_option linter.unusedVariables false
set_option linter.unusedSimpArgs false
namespace Go.Proofs.Ytlofomkhiefbmaa
open Go.RowKit
theorem WriteString_0 {B gb c : Nat} {A : Option Addr} {rows : List (List Value)} {s : ByteArray} {w : World} {C : Gh} (hH : Has w C) (hg : B ≤ gb) (st : St w C gb [Value.pointer none, .slice A rows.length c] 80) (hm : MRow B 5 1 w C A c rows) (hl : rows.length + s.size ≤ 1000000) : Ret Try.prog 33 #[.pointer (some ⟨gb, 0, none⟩), .string s] w fun v w' => v = .tuple #[.int .i64 (s.size : Int), .nilIface] ∧ ∃ (A' : Option Addr) (c' : Nat), Ext B w C w' C ∧ St w' C gb [.pointer (some ⟨gb, 0, none⟩), .slice A' (rows ++ bRows s).length c'] 80 ∧ MRow B 5 1 w' C A' c' (rows ++ bRows s) := by
  refine Ret.of Try.func33 rfl Try.ntmps33 rfl ?_
  have hE := Ext.refl (B := B) hH; have hlt_st := st.lt; have hB0 : B ≤ w.heap.size := Nat.le_trans hg (Nat.le_of_lt hlt_st)
  refine FW.seq_k fun K1 hK1 => ?_
  refine FW.region rfl ?_
  refine FWl.val 4 rfl rfl (Value.int .i64 0) _ (r_assign) ?_
  refine FWl.val 5 rfl rfl (Value.nilIface) _ (r_assign) ?_
  refine FWl.nil (hK1 _ _ ?_)
  clear hK1 K1
  refine FW.seq_k fun K2 hK2 => ?_
  refine FW.region rfl ?_
  refine FWl.val 6 rfl rfl (Value.pointer (some ⟨gb, 0, none⟩)) _ (r_move) ?_
  refine FWl.call 7 rfl rfl 58 #[Value.pointer (some ⟨gb, 0, none⟩)] (r_call1 Try.call58 rfl rfl) (Ret.of Try.func58 rfl Try.ntmps58 rfl ?_)
  refine FW.seq_k fun K3 hK3 => ?_
  refine FW.region rfl ?_
  refine FWl.val 2 rfl rfl (Value.pointer (some ⟨gb, 0, none⟩)) _ (r_move) ?_
  refine FWl.val 3 rfl rfl (Value.pointer (some ⟨gb, 0, none⟩)) _ (r_nilCheck rfl) ?_
  refine FWl.val 4 rfl rfl (Value.pointer (some ⟨gb, 0, none⟩)) _ (r_fieldAddrS Try.underlying80 rfl Try.sizeOf78 rfl rfl rfl rfl) ?_
  refine FWl.val 5 rfl rfl (Value.pointer none) _ (r_load1 Try.isAgg78 rfl (st.cell rfl)) ?_
  refine FWl.val 6 rfl rfl (Value.bool true) _ (r_eqlPtrNil (q := none) Try.underlying78 rfl rfl) ?_
  refine FWl.nil (hK3 _ _ ?_)
  clear hK3 K3
  refine FW.cond true rfl (fun _ => ?_) (fun h => nomatch h)
  refine FW.region rfl ?_
  refine FWl.val 7 rfl rfl (Value.pointer (some ⟨gb, 0, none⟩)) _ (r_move) ?_
  refine FWl.val 8 rfl rfl (Value.pointer (some ⟨gb, 0, none⟩)) _ (r_move) ?_
  refine FWl.val 9 rfl rfl (Value.pointer (some ⟨gb, 0, none⟩)) _ (r_toUnsafe Try.underlying78 Try.underlying120 info80 (by decide) st (by simp) rfl) ?_
  refine FWl.val 10 rfl rfl (Value.pointer (some ⟨gb, 0, none⟩)) _ (r_noEscape Try.func65 (by kernel_rfl) (by kernel_rfl) (by kernel_rfl) (by kernel_rfl) rfl rfl) ?_
  refine FWl.val 11 rfl rfl (Value.pointer (some ⟨gb, 0, none⟩)) _ (r_fromUnsafe Try.underlying120 Try.underlying78 info80 st (by kernel_rfl) rfl) ?_
  refine FWl.val 12 rfl rfl (Value.pointer (some ⟨gb, 0, none⟩)) _ (r_nilCheck rfl) ?_
  refine FWl.val 13 rfl rfl (Value.pointer (some ⟨gb, 0, none⟩)) _ (r_fieldAddrS Try.underlying80 rfl Try.sizeOf78 rfl rfl rfl rfl) ?_
  refine FWl.store (vs := [Value.pointer (some ⟨gb, 0, none⟩)]) (cs' := [Value.pointer (some ⟨gb, 0, none⟩), Value.slice A rows.length c]) rfl rfl rfl Try.sizeOf78 rfl st hH rfl rfl rfl rfl rfl rfl ?_
  intro w1 m2 st_3
  have hE_4 := hE.trans (m2.ext (Nat.le_trans hB0 hE.size) (by omega))
  have hm_5 := hm.other m2 st (by decide)
  have hH6 := m2.has
  refine FWl.nil (?_)
  refine ret_none  Try.results58 (.inr rfl) ?_
  refine FWl.nil (hK2 _ _ ?_)
  clear hK2 K2
  refine FW.seq_k fun K4 hK4 => ?_
  refine FW.region rfl ?_
  refine FWl.val 8 rfl rfl (Value.pointer (some ⟨gb, 0, none⟩)) _ (r_move) ?_
  refine FWl.val 9 rfl rfl (Value.pointer (some ⟨gb, 0, none⟩)) _ (r_move) ?_
  refine FWl.val 10 rfl rfl (Value.pointer (some ⟨gb, 0, none⟩)) _ (r_nilCheck rfl) ?_
  refine FWl.val 11 rfl rfl (Value.pointer (some ⟨gb, 1, none⟩)) _ (r_fieldAddrS Try.underlying80 rfl Try.sizeOf47 rfl rfl rfl rfl) ?_
  refine FWl.val 12 rfl rfl (Value.slice A rows.length c) _ (r_load1 Try.isAgg47 rfl (st_3.cell rfl)) ?_
  refine FWl.val 13 rfl rfl (Value.string s) _ (r_move) ?_
  refine FWl.appStr (B := B) rfl rfl rfl Try.underlying47 Try.underlying9 info5 zero5 rfl rfl rfl rfl hm_5 hH6 (Nat.le_trans hB0 hE_4.size) (by omega) ?_
  intro A7 c8 w9 hM10 e11 hts12 hto13
  have hE_14 := hE_4.trans e11
  have st_15 := hts12 _ _ _ st_3 (by decide)
  have hH16 := e11.has
  refine FWl.val 15 rfl rfl (Value.pointer (some ⟨gb, 0, none⟩)) _ (r_nilCheck rfl) ?_
  refine FWl.val 16 rfl rfl (Value.pointer (some ⟨gb, 1, none⟩)) _ (r_fieldAddrS Try.underlying80 rfl Try.sizeOf47 rfl rfl rfl rfl) ?_
  refine FWl.store (vs := [Value.slice A7 ((rows ++ bRows s).length) c8]) (cs' := [Value.pointer (some ⟨gb, 0, none⟩), Value.slice A7 ((rows ++ bRows s).length) c8]) rfl rfl rfl Try.sizeOf47 rfl st_15 hH16 rfl rfl rfl rfl rfl rfl ?_
  intro w17 m18 st_19
  have hE_20 := hE_14.trans (m18.ext (Nat.le_trans hB0 hE_14.size) (by omega))
  have hm_21 := hM10.other m18 st_15 (by decide)
  refine FWl.nil (hK4 _ _ ?_)
  clear hK4 K4
  refine FW.seq_k fun K5 hK5 => ?_
  refine FW.region rfl ?_
  refine FWl.val 17 rfl rfl (Value.string s) _ (r_move) ?_
  refine FWl.val 18 rfl rfl (Value.int .i64 ((s.size : Nat) : Int)) _ (r_lenStr Try.underlying9 rfl) ?_
  refine FWl.val 4 rfl rfl (Value.int .i64 ((s.size : Nat) : Int)) _ (r_assign) ?_
  refine FWl.val 5 rfl rfl (Value.nilIface) _ (r_assign) ?_
  refine FWl.nil (hK5 _ _ ?_)
  clear hK5 K5
  refine FW.ret (?_)
  refine ret_tmp2 (v := Value.int .i64 ((s.size : Nat) : Int)) (v' := Value.nilIface) Try.results33 (.inl rfl) rfl rfl ?_
  exact ⟨rfl, A7, c8, hE_20, st_19, hm_21⟩

theorem WriteString_1 {B gb c : Nat} {A : Option Addr} {rows : List (List Value)} {s : ByteArray} {w : World} {C : Gh} (hH : Has w C) (hg : B ≤ gb) (st : St w C gb [Value.pointer (some ⟨gb, 0, none⟩), .slice A rows.length c] 80) (hm : MRow B 5 1 w C A c rows) (hl : rows.length + s.size ≤ 1000000) : Ret Try.prog 33 #[.pointer (some ⟨gb, 0, none⟩), .string s] w fun v w' => v = .tuple #[.int .i64 (s.size : Int), .nilIface] ∧ ∃ (A' : Option Addr) (c' : Nat), Ext B w C w' C ∧ St w' C gb [.pointer (some ⟨gb, 0, none⟩), .slice A' (rows ++ bRows s).length c'] 80 ∧ MRow B 5 1 w' C A' c' (rows ++ bRows s) := by
  refine Ret.of Try.func33 rfl Try.ntmps33 rfl ?_
  have hE := Ext.refl (B := B) hH; have hlt_st := st.lt; have hB0 : B ≤ w.heap.size := Nat.le_trans hg (Nat.le_of_lt hlt_st)
  refine FW.seq_k fun K1 hK1 => ?_
  refine FW.region rfl ?_
  refine FWl.val 4 rfl rfl (Value.int .i64 0) _ (r_assign) ?_
  refine FWl.val 5 rfl rfl (Value.nilIface) _ (r_assign) ?_
  refine FWl.nil (hK1 _ _ ?_)
  clear hK1 K1
  refine FW.seq_k fun K2 hK2 => ?_
  refine FW.region rfl ?_
  refine FWl.val 6 rfl rfl (Value.pointer (some ⟨gb, 0, none⟩)) _ (r_move) ?_
  refine FWl.call 7 rfl rfl 58 #[Value.pointer (some ⟨gb, 0, none⟩)] (r_call1 Try.call58 rfl rfl) (Ret.of Try.func58 rfl Try.ntmps58 rfl ?_)
  refine FW.seq_k fun K3 hK3 => ?_
  refine FW.region rfl ?_
  refine FWl.val 2 rfl rfl (Value.pointer (some ⟨gb, 0, none⟩)) _ (r_move) ?_
  refine FWl.val 3 rfl rfl (Value.pointer (some ⟨gb, 0, none⟩)) _ (r_nilCheck rfl) ?_
  refine FWl.val 4 rfl rfl (Value.pointer (some ⟨gb, 0, none⟩)) _ (r_fieldAddrS Try.underlying80 rfl Try.sizeOf78 rfl rfl rfl rfl) ?_
  refine FWl.val 5 rfl rfl (Value.pointer (some ⟨gb, 0, none⟩)) _ (r_load1 Try.isAgg78 rfl (st.cell rfl)) ?_
  refine FWl.val 6 rfl rfl (Value.bool false) _ (r_eqlPtrNil (q := some _) Try.underlying78 rfl rfl) ?_
  refine FWl.nil (hK3 _ _ ?_)
  clear hK3 K3
  refine FW.cond false rfl (fun h => nomatch h) (fun _ => ?_)
  refine FW.seq_k fun K4 hK4 => ?_
  refine FW.region rfl ?_
  refine FWl.val 14 rfl rfl (Value.pointer (some ⟨gb, 0, none⟩)) _ (r_move) ?_
  refine FWl.val 15 rfl rfl (Value.pointer (some ⟨gb, 0, none⟩)) _ (r_nilCheck rfl) ?_
  refine FWl.val 16 rfl rfl (Value.pointer (some ⟨gb, 0, none⟩)) _ (r_fieldAddrS Try.underlying80 rfl Try.sizeOf78 rfl rfl rfl rfl) ?_
  refine FWl.val 17 rfl rfl (Value.pointer (some ⟨gb, 0, none⟩)) _ (r_load1 Try.isAgg78 rfl (st.cell rfl)) ?_
  refine FWl.val 18 rfl rfl (Value.pointer (some ⟨gb, 0, none⟩)) _ (r_move) ?_
  refine FWl.val 19 rfl rfl (Value.bool false) _ (r_neqPtrSame Try.underlying78 info80 rfl rfl) ?_
  refine FWl.nil (hK4 _ _ ?_)
  clear hK4 K4
  refine FW.cond false rfl (fun h => nomatch h) (fun _ => ?_)
  refine FW.skip (?_)
  refine ret_none  Try.results58 (.inr rfl) ?_
  refine FWl.nil (hK2 _ _ ?_)
  clear hK2 K2
  refine FW.seq_k fun K5 hK5 => ?_
  refine FW.region rfl ?_
  refine FWl.val 8 rfl rfl (Value.pointer (some ⟨gb, 0, none⟩)) _ (r_move) ?_
  refine FWl.val 9 rfl rfl (Value.pointer (some ⟨gb, 0, none⟩)) _ (r_move) ?_
  refine FWl.val 10 rfl rfl (Value.pointer (some ⟨gb, 0, none⟩)) _ (r_nilCheck rfl) ?_
  refine FWl.val 11 rfl rfl (Value.pointer (some ⟨gb, 1, none⟩)) _ (r_fieldAddrS Try.underlying80 rfl Try.sizeOf47 rfl rfl rfl rfl) ?_
  refine FWl.val 12 rfl rfl (Value.slice A rows.length c) _ (r_load1 Try.isAgg47 rfl (st.cell rfl)) ?_
  refine FWl.val 13 rfl rfl (Value.string s) _ (r_move) ?_
  refine FWl.appStr (B := B) rfl rfl rfl Try.underlying47 Try.underlying9 info5 zero5 rfl rfl rfl rfl hm hH (Nat.le_trans hB0 hE.size) (by omega) ?_
  intro A1 c2 w3 hM4 e5 hts6 hto7
  have hE_8 := hE.trans e5
  have st_9 := hts6 _ _ _ st (by decide)
  have hH10 := e5.has
  refine FWl.val 15 rfl rfl (Value.pointer (some ⟨gb, 0, none⟩)) _ (r_nilCheck rfl) ?_
  refine FWl.val 16 rfl rfl (Value.pointer (some ⟨gb, 1, none⟩)) _ (r_fieldAddrS Try.underlying80 rfl Try.sizeOf47 rfl rfl rfl rfl) ?_
  refine FWl.store (vs := [Value.slice A1 ((rows ++ bRows s).length) c2]) (cs' := [Value.pointer (some ⟨gb, 0, none⟩), Value.slice A1 ((rows ++ bRows s).length) c2]) rfl rfl rfl Try.sizeOf47 rfl st_9 hH10 rfl rfl rfl rfl rfl rfl ?_
  intro w11 m12 st_13
  have hE_14 := hE_8.trans (m12.ext (Nat.le_trans hB0 hE_8.size) (by omega))
  have hm_15 := hM4.other m12 st_9 (by decide)
  refine FWl.nil (hK5 _ _ ?_)
  clear hK5 K5
  refine FW.seq_k fun K6 hK6 => ?_
  refine FW.region rfl ?_
  refine FWl.val 17 rfl rfl (Value.string s) _ (r_move) ?_
  refine FWl.val 18 rfl rfl (Value.int .i64 ((s.size : Nat) : Int)) _ (r_lenStr Try.underlying9 rfl) ?_
  refine FWl.val 4 rfl rfl (Value.int .i64 ((s.size : Nat) : Int)) _ (r_assign) ?_
  refine FWl.val 5 rfl rfl (Value.nilIface) _ (r_assign) ?_
  refine FWl.nil (hK6 _ _ ?_)
  clear hK6 K6
  refine FW.ret (?_)
  refine ret_tmp2 (v := Value.int .i64 ((s.size : Nat) : Int)) (v' := Value.nilIface) Try.results33 (.inl rfl) rfl rfl ?_
  exact ⟨rfl, A1, c2, hE_14, st_13, hm_15⟩

theorem Len_c {gb c : Nat} {A : Option Addr} {rows : List (List Value)} {w : World} {C : Gh} (hH : Has w C) (st : St w C gb [Value.pointer (some ⟨gb, 0, none⟩), .slice A rows.length c] 80) : Ret Try.prog 35 #[.pointer (some ⟨gb, 0, none⟩)] w fun v w' => v = .int .i64 ((rows.length : Nat) : Int) ∧ Ext w.heap.size w C w' C := by
  refine Ret.of Try.func35 rfl Try.ntmps35 rfl ?_
  have hE := Ext.refl (B := w.heap.size) hH
  refine FW.seq_k fun K1 hK1 => ?_
  refine FW.region rfl ?_
  refine FWl.val 2 rfl rfl (Value.int .i64 0) _ (r_assign) ?_
  refine FWl.nil (hK1 _ _ ?_)
  clear hK1 K1
  refine FW.seq_k fun K2 hK2 => ?_
  refine FW.region rfl ?_
  refine FWl.val 3 rfl rfl (Value.pointer (some ⟨gb, 0, none⟩)) _ (r_move) ?_
  refine FWl.val 4 rfl rfl (Value.pointer (some ⟨gb, 0, none⟩)) _ (r_nilCheck rfl) ?_
  refine FWl.val 5 rfl rfl (Value.pointer (some ⟨gb, 1, none⟩)) _ (r_fieldAddrS Try.underlying80 rfl Try.sizeOf47 rfl rfl rfl rfl) ?_
  refine FWl.val 6 rfl rfl (Value.slice A rows.length c) _ (r_load1 Try.isAgg47 rfl (st.cell rfl)) ?_
  refine FWl.val 7 rfl rfl (Value.int .i64 ((rows.length : Nat) : Int)) _ (r_lenSl Try.underlying47 rfl) ?_
  refine FWl.val 2 rfl rfl (Value.int .i64 ((rows.length : Nat) : Int)) _ (r_assign) ?_
  refine FWl.nil (hK2 _ _ ?_)
  clear hK2 K2
  refine FW.ret (?_)
  refine ret_tmp (v := Value.int .i64 ((rows.length : Nat) : Int)) Try.results35 (.inl rfl) rfl ?_
  exact ⟨rfl, hE⟩

end Go.Proofs.Ytlofomkhiefbmaa
