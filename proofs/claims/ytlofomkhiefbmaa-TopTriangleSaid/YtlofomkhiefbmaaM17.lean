/- Walks. -/
import Derived.Test.YtlofomkhiefbmaaJH
import Derived.Test.YtlofomkhiefbmaaJT
import Derived.Test.YtlofomkhiefbmaaPT
import Derived.Test.YtlofomkhiefbmaaM16
set_option maxRecDepth 10000
set_option linter.unusedVariables false
set_option linter.unusedSimpArgs false
namespace Go.Proofs.Ytlofomkhiefbmaa
open Go.RowKit
theorem evs_lives : evs [(⟨(⟨#[97]⟩ : ByteArray), false⟩ : Line), (⟨(⟨#[98]⟩ : ByteArray), false⟩ : Line)] [(⟨(⟨#[97]⟩ : ByteArray), false⟩ : Line), (⟨(⟨#[99]⟩ : ByteArray), false⟩ : Line)] 0 0 = [(1, 0, 0), (2, 1, 1), (3, 2, 1)] := by
  rw [evs_eq, evs_out (by decide) (by rw [ed_ne (by decide), ed_nil, ed_nil']; decide), evs_r, evs_nil]
  rfl
theorem makeS_lives : makeS [(⟨(⟨#[97]⟩ : ByteArray), false⟩ : Line), (⟨(⟨#[98]⟩ : ByteArray), false⟩ : Line)] [(⟨(⟨#[97]⟩ : ByteArray), false⟩ : Line), (⟨(⟨#[99]⟩ : ByteArray), false⟩ : Line)] = [(⟨1, [(⟨(⟨#[97]⟩ : ByteArray), false⟩ : Line)]⟩ : Edit), (⟨2, [(⟨(⟨#[98]⟩ : ByteArray), false⟩ : Line)]⟩ : Edit), (⟨3, [(⟨(⟨#[99]⟩ : ByteArray), false⟩ : Line)]⟩ : Edit)] := by
  unfold makeS makeE
  rw [evs_lives]
  rfl
theorem patchLives_c  {w : World} {C : Gh} (hH : Has w C) : Ret Try.prog 5 #[] w fun v w' => ∃ (C' : Gh), v = Value.bool true ∧ Ext w.heap.size w C w' C' := by
  refine Ret.of Try.func5 rfl Try.ntmps5 rfl ?_
  have hE := Ext.refl (B := w.heap.size) hH
  refine FW.seq_k fun K1 hK1 => ?_
  refine FW.region rfl ?_
  refine FWl.val 0 rfl rfl (Value.bool false) _ (r_assign) ?_
  refine FWl.nil (hK1 _ _ ?_)
  clear hK1 K1
  refine FW.seq_k fun K2 hK2 => ?_
  refine FW.region rfl ?_
  refine FWl.litG (K := kInt .u8) (xs := [97, 10, 98, 10]) (cs := [Value.int .u8 97, Value.int .u8 10, Value.int .u8 98, Value.int .u8 10]) rfl rfl rfl Try.underlying47 info5 zero5 rfl (by kernel_rfl) (.cons (cs := [Value.int .u8 97]) rfl (.cons (cs := [Value.int .u8 10]) rfl (.cons (cs := [Value.int .u8 98]) rfl (.cons (cs := [Value.int .u8 10]) rfl .nil)))) rfl hH ?_
  intro g6 w7 C8 hs9 e10 hg11 hlt12
  have hge13 := Nat.le_trans hE.size (Nat.le_of_eq hg11)
  have hE_14 := hE.step e10
  have hH15 := e10.has
  refine FWl.convSame rfl rfl rfl Try.underlying47 Try.underlying5 rfl hH15 ?_
  intro w16 m17
  have hE_18 := hE_14.trans (m17.ext hE_14.size (by omega))
  have hH19 := m17.has
  refine FWl.call 11 rfl rfl 15 #[Value.slice (some ⟨g6, 0, none⟩) (([97, 10, 98, 10]).length) 4] (r_call1 Try.call15 rfl rfl) ((Lines_b hH19 hs9).mono ?_)
  rintro _ w22 ⟨C23, A20, c21, rfl, e25, hs24⟩
  have hE_26 := hE_18.step e25
  have hH28 := e25.has
  refine FWl.litG (K := kInt .u8) (xs := [97, 10, 99, 10]) (cs := [Value.int .u8 97, Value.int .u8 10, Value.int .u8 99, Value.int .u8 10]) rfl rfl rfl Try.underlying47 info5 zero5 rfl (by kernel_rfl) (.cons (cs := [Value.int .u8 97]) rfl (.cons (cs := [Value.int .u8 10]) rfl (.cons (cs := [Value.int .u8 99]) rfl (.cons (cs := [Value.int .u8 10]) rfl .nil)))) rfl hH28 ?_
  intro g34 w35 C36 hs37 e38 hg39 hlt40
  have hge41 := Nat.le_trans hE_26.size (Nat.le_of_eq hg39)
  have hE_42 := hE_26.step e38
  have hs24_44 := hs24.mono e38.le
  have hH45 := e38.has
  refine FWl.convSame rfl rfl rfl Try.underlying47 Try.underlying5 rfl hH45 ?_
  intro w46 m47
  have hE_48 := hE_42.trans (m47.ext hE_42.size (by omega))
  have hH49 := m47.has
  refine FWl.call 14 rfl rfl 15 #[Value.slice (some ⟨g34, 0, none⟩) (([97, 10, 99, 10]).length) 4] (r_call1 Try.call15 rfl rfl) ((Lines_c hH49 hs37).mono ?_)
  rintro _ w52 ⟨C53, A50, c51, rfl, e55, hs54⟩
  have hE_56 := hE_48.step e55
  have hs24_58 := hs24_44.mono e55.le
  have hH60 := e55.has
  refine FWl.val 1 rfl rfl (Value.slice A20 (([(⟨(⟨#[97]⟩ : ByteArray), false⟩ : Line), (⟨(⟨#[98]⟩ : ByteArray), false⟩ : Line)]).length) c21) _ (r_assign) ?_
  refine FWl.val 2 rfl rfl (Value.slice A50 (([(⟨(⟨#[97]⟩ : ByteArray), false⟩ : Line), (⟨(⟨#[99]⟩ : ByteArray), false⟩ : Line)]).length) c51) _ (r_assign) ?_
  refine FWl.nil (hK2 _ _ ?_)
  clear hK2 K2
  refine FW.seq_k fun K3 hK3 => ?_
  refine FW.region rfl ?_
  refine FWl.val 16 rfl rfl (Value.slice A20 (([(⟨(⟨#[97]⟩ : ByteArray), false⟩ : Line), (⟨(⟨#[98]⟩ : ByteArray), false⟩ : Line)]).length) c21) _ (r_move) ?_
  refine FWl.val 17 rfl rfl (Value.slice A50 (([(⟨(⟨#[97]⟩ : ByteArray), false⟩ : Line), (⟨(⟨#[99]⟩ : ByteArray), false⟩ : Line)]).length) c51) _ (r_move) ?_
  refine FWl.call 18 rfl rfl 6 #[Value.slice A20 (([(⟨(⟨#[97]⟩ : ByteArray), false⟩ : Line), (⟨(⟨#[98]⟩ : ByteArray), false⟩ : Line)]).length) c21, Value.slice A50 (([(⟨(⟨#[97]⟩ : ByteArray), false⟩ : Line), (⟨(⟨#[99]⟩ : ByteArray), false⟩ : Line)]).length) c51] (r_call2 Try.call6 rfl rfl rfl) ((Make_c hH60 hs24_58 hs54 (by decide) (by decide)).mono ?_)
  rintro _ w63 ⟨C64, A61, c62, rfl, e66, hs65⟩
  rw [makeS_lives] at hs65
  rw [makeS_lives]
  have hE_67 := hE_56.step e66
  have hH72 := e66.has
  refine FWl.val 15 rfl rfl (Value.tuple #[Value.slice A61 (([(⟨1, [(⟨(⟨#[97]⟩ : ByteArray), false⟩ : Line)]⟩ : Edit), (⟨2, [(⟨(⟨#[98]⟩ : ByteArray), false⟩ : Line)]⟩ : Edit), (⟨3, [(⟨(⟨#[99]⟩ : ByteArray), false⟩ : Line)]⟩ : Edit)]).length) c62, Value.int .i64 0]) _ (r_move) ?_
  refine FWl.val 19 rfl rfl (Value.slice A61 (([(⟨1, [(⟨(⟨#[97]⟩ : ByteArray), false⟩ : Line)]⟩ : Edit), (⟨2, [(⟨(⟨#[98]⟩ : ByteArray), false⟩ : Line)]⟩ : Edit), (⟨3, [(⟨(⟨#[99]⟩ : ByteArray), false⟩ : Line)]⟩ : Edit)]).length) c62) _ (r_extract rfl rfl) ?_
  refine FWl.val 20 rfl rfl (Value.int .i64 0) _ (r_extract rfl rfl) ?_
  refine FWl.val 3 rfl rfl (Value.slice A61 (([(⟨1, [(⟨(⟨#[97]⟩ : ByteArray), false⟩ : Line)]⟩ : Edit), (⟨2, [(⟨(⟨#[98]⟩ : ByteArray), false⟩ : Line)]⟩ : Edit), (⟨3, [(⟨(⟨#[99]⟩ : ByteArray), false⟩ : Line)]⟩ : Edit)]).length) c62) _ (r_assign) ?_
  refine FWl.val 4 rfl rfl (Value.int .i64 0) _ (r_assign) ?_
  refine FWl.nil (hK3 _ _ ?_)
  clear hK3 K3
  refine FW.seq_k fun K4 hK4 => ?_
  refine FW.region rfl ?_
  refine FWl.val 22 rfl rfl (Value.slice A61 (([(⟨1, [(⟨(⟨#[97]⟩ : ByteArray), false⟩ : Line)]⟩ : Edit), (⟨2, [(⟨(⟨#[98]⟩ : ByteArray), false⟩ : Line)]⟩ : Edit), (⟨3, [(⟨(⟨#[99]⟩ : ByteArray), false⟩ : Line)]⟩ : Edit)]).length) c62) _ (r_move) ?_
  refine FWl.call 23 rfl rfl 16 #[Value.slice A61 (([(⟨1, [(⟨(⟨#[97]⟩ : ByteArray), false⟩ : Line)]⟩ : Edit), (⟨2, [(⟨(⟨#[98]⟩ : ByteArray), false⟩ : Line)]⟩ : Edit), (⟨3, [(⟨(⟨#[99]⟩ : ByteArray), false⟩ : Line)]⟩ : Edit)]).length) c62, Value.int .i64 0] (r_call2 Try.call16 rfl rfl rfl) ((Build_1 hH72 hs65).mono ?_)
  rintro _ w75 ⟨C76, A73, c74, rfl, e78, hs77⟩
  have hE_79 := hE_67.step e78
  have hH85 := e78.has
  refine FWl.val 21 rfl rfl (Value.tuple #[Value.slice A73 (([(⟨1, 1, 1, 1, [(⟨2, [(⟨(⟨#[98]⟩ : ByteArray), false⟩ : Line)]⟩ : Edit), (⟨3, [(⟨(⟨#[99]⟩ : ByteArray), false⟩ : Line)]⟩ : Edit)]⟩ : Hunk)]).length) c74, Value.int .i64 0]) _ (r_move) ?_
  refine FWl.val 24 rfl rfl (Value.slice A73 (([(⟨1, 1, 1, 1, [(⟨2, [(⟨(⟨#[98]⟩ : ByteArray), false⟩ : Line)]⟩ : Edit), (⟨3, [(⟨(⟨#[99]⟩ : ByteArray), false⟩ : Line)]⟩ : Edit)]⟩ : Hunk)]).length) c74) _ (r_extract rfl rfl) ?_
  refine FWl.val 25 rfl rfl (Value.int .i64 0) _ (r_extract rfl rfl) ?_
  refine FWl.val 5 rfl rfl (Value.slice A73 (([(⟨1, 1, 1, 1, [(⟨2, [(⟨(⟨#[98]⟩ : ByteArray), false⟩ : Line)]⟩ : Edit), (⟨3, [(⟨(⟨#[99]⟩ : ByteArray), false⟩ : Line)]⟩ : Edit)]⟩ : Hunk)]).length) c74) _ (r_assign) ?_
  refine FWl.val 6 rfl rfl (Value.int .i64 0) _ (r_assign) ?_
  refine FWl.nil (hK4 _ _ ?_)
  clear hK4 K4
  refine FW.seq_k fun K5 hK5 => ?_
  refine FW.region rfl ?_
  refine FWl.val 27 rfl rfl (Value.slice A73 (([(⟨1, 1, 1, 1, [(⟨2, [(⟨(⟨#[98]⟩ : ByteArray), false⟩ : Line)]⟩ : Edit), (⟨3, [(⟨(⟨#[99]⟩ : ByteArray), false⟩ : Line)]⟩ : Edit)]⟩ : Hunk)]).length) c74) _ (r_move) ?_
  refine FWl.call 28 rfl rfl 17 #[Value.slice A73 (([(⟨1, 1, 1, 1, [(⟨2, [(⟨(⟨#[98]⟩ : ByteArray), false⟩ : Line)]⟩ : Edit), (⟨3, [(⟨(⟨#[99]⟩ : ByteArray), false⟩ : Line)]⟩ : Edit)]⟩ : Hunk)]).length) c74] (r_call1 Try.call17 rfl rfl) ((Print_1 hH85 hs77).mono ?_)
  rintro _ w88 ⟨C89, A86, c87, rfl, e91, hs90⟩
  have hE_92 := hE_79.step e91
  have hH99 := e91.has
  refine FWl.val 26 rfl rfl (Value.tuple #[Value.slice A86 (([64, 64, 32, 45, 50, 44, 49, 32, 43, 50, 44, 49, 32, 64, 64, 10, 45, 98, 10, 43, 99, 10]).length) c87, Value.int .i64 0]) _ (r_move) ?_
  refine FWl.val 29 rfl rfl (Value.slice A86 (([64, 64, 32, 45, 50, 44, 49, 32, 43, 50, 44, 49, 32, 64, 64, 10, 45, 98, 10, 43, 99, 10]).length) c87) _ (r_extract rfl rfl) ?_
  refine FWl.val 30 rfl rfl (Value.int .i64 0) _ (r_extract rfl rfl) ?_
  refine FWl.val 7 rfl rfl (Value.slice A86 (([64, 64, 32, 45, 50, 44, 49, 32, 43, 50, 44, 49, 32, 64, 64, 10, 45, 98, 10, 43, 99, 10]).length) c87) _ (r_assign) ?_
  refine FWl.val 8 rfl rfl (Value.int .i64 0) _ (r_assign) ?_
  refine FWl.nil (hK5 _ _ ?_)
  clear hK5 K5
  refine FW.seq_k fun K6 hK6 => ?_
  refine FW.region rfl ?_
  refine FWl.val 31 rfl rfl (Value.int .i64 0) _ (r_move) ?_
  refine FWl.val 32 rfl rfl (Value.bool true) _ (r_eql (a := 0) (b := 0) rfl rfl) ?_
  refine FWl.val 33 rfl rfl (Value.bool true) _ (r_move) ?_
  refine FWl.val 34 rfl rfl (Value.int .i64 0) _ (r_move) ?_
  refine FWl.val 35 rfl rfl (Value.bool true) _ (r_eql (a := 0) (b := 0) rfl rfl) ?_
  refine FWl.val 36 rfl rfl (Value.bool true) _ (r_pick (t := true) rfl) ?_
  refine FWl.val 37 rfl rfl (Value.bool true) _ (r_move) ?_
  refine FWl.val 38 rfl rfl (Value.int .i64 0) _ (r_move) ?_
  refine FWl.val 39 rfl rfl (Value.bool true) _ (r_eql (a := 0) (b := 0) rfl rfl) ?_
  refine FWl.val 40 rfl rfl (Value.bool true) _ (r_pick (t := true) rfl) ?_
  refine FWl.val 41 rfl rfl (Value.bool true) _ (r_move) ?_
  refine FWl.val 42 rfl rfl (Value.slice A86 (([64, 64, 32, 45, 50, 44, 49, 32, 43, 50, 44, 49, 32, 64, 64, 10, 45, 98, 10, 43, 99, 10]).length) c87) _ (r_move) ?_
  refine FWl.val 43 rfl rfl (Value.string (⟨#[64, 64, 32, 45, 50, 44, 49, 32, 43, 50, 44, 49, 32, 64, 64, 10, 45, 98, 10, 43, 99, 10]⟩ : ByteArray)) _ (r_bytesStr (l := [64, 64, 32, 45, 50, 44, 49, 32, 43, 50, 44, 49, 32, 64, 64, 10, 45, 98, 10, 43, 99, 10]) (r := (⟨#[64, 64, 32, 45, 50, 44, 49, 32, 43, 50, 44, 49, 32, 64, 64, 10, 45, 98, 10, 43, 99, 10]⟩ : ByteArray)) Try.underlying47 Try.underlying5 Try.underlying9 hs90 rfl rfl (by decide) hH99 rfl) ?_
  refine FWl.val 44 rfl rfl (Value.bool (decide ((⟨#[64, 64, 32, 45, 50, 44, 49, 32, 43, 50, 44, 49, 32, 64, 64, 10, 45, 98, 10, 43, 99, 10]⟩ : ByteArray) = ({ data := #[64, 64, 32, 45, 50, 44, 49, 32, 43, 50, 44, 49, 32, 64, 64, 10, 45, 98, 10, 43, 99, 10] })))) _ (r_eqlStr rfl rfl) ?_
  refine FWl.val 45 rfl rfl (Value.bool (decide ((⟨#[64, 64, 32, 45, 50, 44, 49, 32, 43, 50, 44, 49, 32, 64, 64, 10, 45, 98, 10, 43, 99, 10]⟩ : ByteArray) = ({ data := #[64, 64, 32, 45, 50, 44, 49, 32, 43, 50, 44, 49, 32, 64, 64, 10, 45, 98, 10, 43, 99, 10] })))) _ (r_pick (t := true) rfl) ?_
  refine FWl.val 0 rfl rfl (Value.bool (decide ((⟨#[64, 64, 32, 45, 50, 44, 49, 32, 43, 50, 44, 49, 32, 64, 64, 10, 45, 98, 10, 43, 99, 10]⟩ : ByteArray) = ({ data := #[64, 64, 32, 45, 50, 44, 49, 32, 43, 50, 44, 49, 32, 64, 64, 10, 45, 98, 10, 43, 99, 10] })))) _ (r_assign) ?_
  refine FWl.nil (hK6 _ _ ?_)
  clear hK6 K6
  refine FW.ret (?_)
  refine ret_tmp (v := Value.bool (decide ((⟨#[64, 64, 32, 45, 50, 44, 49, 32, 43, 50, 44, 49, 32, 64, 64, 10, 45, 98, 10, 43, 99, 10]⟩ : ByteArray) = ({ data := #[64, 64, 32, 45, 50, 44, 49, 32, 43, 50, 44, 49, 32, 64, 64, 10, 45, 98, 10, 43, 99, 10] })))) Try.results5 (.inl rfl) rfl ?_
  exact ⟨C89, rfl, hE_92⟩

end Go.Proofs.Ytlofomkhiefbmaa
