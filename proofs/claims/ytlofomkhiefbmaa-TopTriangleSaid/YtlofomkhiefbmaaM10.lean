/- Walks. -/
import Derived.Test.YtlofomkhiefbmaaJH
import Derived.Test.YtlofomkhiefbmaaJT
import Derived.Test.YtlofomkhiefbmaaJL
import Derived.Test.YtlofomkhiefbmaaPC
import Derived.Test.YtlofomkhiefbmaaM2
set_option maxRecDepth 10000
set_option linter.unusedVariables false
set_option linter.unusedSimpArgs false
namespace Go.Proofs.Ytlofomkhiefbmaa
open Go.RowKit
theorem Right_c {A : Option Addr} {c : Nat} {p : List (Int × Int)} {n m : Int} {w : World} {C : Gh} (hH : Has w C) (hp : Sl kPair C A c p) (ok : okP p n m) : Ret Try.prog 13 #[Value.slice A p.length c, Value.int .i64 n, Value.int .i64 m] w fun v w' => ∃ (C' : Gh), v = Value.bool true ∧ Ext w.heap.size w C w' C' := by
  refine Ret.of Try.func13 rfl Try.ntmps13 rfl ?_
  have hE := Ext.refl (B := w.heap.size) hH
  have bd_hp := hp.bd
  refine FW.seq_k fun K1 hK1 => ?_
  refine FW.region rfl ?_
  refine FWl.val 6 rfl rfl (Value.bool false) _ (r_assign) ?_
  refine FWl.nil (hK1 _ _ ?_)
  clear hK1 K1
  refine FW.seq_k fun K2 hK2 => ?_
  refine FW.region rfl ?_
  refine FWl.val 7 rfl rfl (Value.int .i64 (-1)) _ (r_assign) ?_
  refine FWl.val 8 rfl rfl (Value.int .i64 (-1)) _ (r_assign) ?_
  refine FWl.nil (hK2 _ _ ?_)
  clear hK2 K2
  refine FW.seq_k fun K3 hK3 => ?_
  refine FW.seq_k fun K4 hK4 => ?_
  refine FW.region rfl ?_
  refine FWl.val 11 rfl rfl (Value.slice A p.length c) _ (r_move) ?_
  refine FWl.val 12 rfl rfl (Value.int .i64 ((p.length : Nat) : Int)) _ (r_lenSl Try.underlying36 rfl) ?_
  refine FWl.val 13 rfl rfl (Value.int .i64 0) _ (r_move) ?_
  refine FWl.nil (hK4 _ _ ?_)
  clear hK4 K4
  refine FW.block ?_
  refine FW.loop_m (fun msr T w1 => ∃ (C2 : Gh) (k : Nat) (i : Int) (j : Int), Holds T [(0, Value.slice A p.length c), (1, Value.int .i64 n), (2, Value.int .i64 m), (7, Value.int .i64 i), (8, Value.int .i64 j), (11, Value.slice A p.length c), (12, Value.int .i64 ((p.length : Nat) : Int)), (13, Value.int .i64 (k : Int))] ∧ Ext (w.heap.size) w C w1 C2 ∧ (k ≤ p.length) ∧ (∀ x, p[k]? = some x → i < x.1 ∧ j < x.2) ∧ msr = p.length - k) (p.length - 0) ?_ ?_
  · exact ⟨C, 0, (-1), (-1), ⟨rfl, rfl, rfl, rfl, rfl, rfl, rfl, rfl, trivial⟩, Ext.refl hH, Nat.zero_le _, fun x hx => by have := ok.low x (List.mem_of_getElem? hx); omega, rfl⟩
  · rintro msr T w1 ⟨C2, k, i, j, hT, hL1, hk, hi, rfl⟩
    refine FW.frame hT fun B1 => ?_
    have hE_3 := hE.step hL1
    have hp_4 := hp.mono hL1.le
    have hH5 := hL1.has
    refine FW.seq_k fun K5 hK5 => ?_
    refine FW.region rfl ?_
    refine FWl.val 14 rfl rfl (Value.bool (decide ((k : Int) < ((p.length : Nat) : Int)))) _ (r_lss rfl rfl) ?_
    refine FWl.nil (hK5 _ _ ?_)
    clear hK5 K5
    refine FW.seq_k fun K6 hK6 => ?_
    refine FW.cond (decide ((k : Int) < ((p.length : Nat) : Int))) rfl (fun hc6 => ?_) (fun hc6 => ?_)
    · have hp7 : (k : Int) < ((p.length : Nat) : Int) := of_decide_eq_true hc6
      refine FW.skip (hK6 _ _ ?_)
      clear hK6 K6
      refine FW.seq_k fun K7 hK7 => ?_
      refine FW.block ?_
      refine FW.seq_k fun K8 hK8 => ?_
      refine FW.region rfl ?_
      obtain ⟨x8, hx9⟩ := get_some (xs := p) (j := k) (by omega)
      obtain ⟨cs10, hr11, hg12⟩ := hp_4.at_ _ _ hx9
      obtain rfl := hr11
      have hlw := ok.low _ (List.mem_of_getElem? hx9)
      have hhg := ok.high _ (List.mem_of_getElem? hx9)
      have hij := hi _ hx9
      refine FWl.val 15 rfl rfl (ptrAt A (((k : Int)).toNat * 2)) _ (r_indexAddr Try.underlying36 Try.sizeOf41 rfl rfl (hp_4.isSome (by omega)) (by omega) (by omega)) ?_
      refine FWl.val 16 rfl rfl (Value.agg #[Value.int .i64 x8.1, Value.int .i64 x8.2]) _ (r_loadGN Try.isAgg41 Try.sizeOf41 hg12 rfl hH5) ?_
      refine FWl.alloc (cs := [Value.int .i64 0, Value.int .i64 0]) rfl rfl rfl Try.zeroValue41 rfl hH5 ?_
      intro g13 w14 st15 e16 hg17
      have hge_st15_hE := Nat.le_trans hE_3.size (Nat.le_of_eq hg17)
      have hge_st15_hL1 := Nat.le_trans hL1.size (Nat.le_of_eq hg17)
      have hL1_19 := hL1.step e16
      have hH20 := e16.has
      have hlt_st15 := st15.lt
      refine FWl.store (vs := [Value.int .i64 x8.1, Value.int .i64 x8.2]) (cs' := [Value.int .i64 x8.1, Value.int .i64 x8.2]) rfl rfl rfl Try.sizeOf41 rfl st15 hH20 rfl rfl rfl rfl rfl rfl ?_
      intro w21 m22 st15_23
      have hL1_25 := hL1_19.trans (m22.ext hL1_19.size (by omega))
      have hH26 := m22.has
      obtain ⟨C27, m28, hcg29⟩ := st15_23.commit hH26
      have hL1_31 := hL1_25.trans (m28.ext hL1_25.size (by omega))
      have hH32 := m28.has
      refine FWl.nil (hK8 _ _ ?_)
      clear hK8 K8
      refine FW.seq_k fun K9 hK9 => ?_
      refine FW.seq_k fun K10 hK10 => ?_
      refine FW.region rfl ?_
      refine FWl.val 17 rfl rfl (Value.pointer (some ⟨g13, 0, none⟩)) _ (r_indexArrS Try.underlying41 Try.sizeOf3 rfl rfl (by omega) (by omega) rfl) ?_
      refine FWl.val 18 rfl rfl (Value.int .i64 x8.1) _ (r_loadP1 Try.isAgg3 hcg29 rfl rfl hH32) ?_
      refine FWl.val 19 rfl rfl (Value.int .i64 i) _ (r_move) ?_
      refine FWl.val 20 rfl rfl (Value.bool (decide (x8.1 ≤ i))) _ (r_leq rfl rfl) ?_
      refine FWl.val 21 rfl rfl (Value.bool (decide (x8.1 ≤ i))) _ (r_move) ?_
      cases hb35 : (decide (x8.1 ≤ i)) with
      | true =>
        have hp36 : x8.1 ≤ i := of_decide_eq_true hb35
        refine FWl.skip 22 rfl rfl ?_
        refine FWl.skip 23 rfl rfl ?_
        refine FWl.skip 24 rfl rfl ?_
        refine FWl.skip 25 rfl rfl ?_
        refine FWl.val 26 rfl rfl (Value.bool true) _ (r_pick (t := true) rfl) ?_
        refine FWl.val 27 rfl rfl (Value.bool true) _ (r_move) ?_
        refine FWl.skip 28 rfl rfl ?_
        refine FWl.skip 29 rfl rfl ?_
        refine FWl.skip 30 rfl rfl ?_
        refine FWl.skip 31 rfl rfl ?_
        refine FWl.val 32 rfl rfl (Value.bool true) _ (r_pick (t := true) rfl) ?_
        refine FWl.val 33 rfl rfl (Value.bool true) _ (r_move) ?_
        refine FWl.skip 34 rfl rfl ?_
        refine FWl.skip 35 rfl rfl ?_
        refine FWl.skip 36 rfl rfl ?_
        refine FWl.skip 37 rfl rfl ?_
        refine FWl.val 38 rfl rfl (Value.bool true) _ (r_pick (t := true) rfl) ?_
        refine FWl.nil (hK10 _ _ ?_)
        clear hK10 K10
        refine FW.cond true rfl (fun _ => ?_) (fun h => nomatch h)
        refine FW.seq_k fun K11 hK11 => ?_
        refine FW.region rfl ?_
        refine FWl.val 6 rfl rfl (Value.bool false) _ (r_assign) ?_
        refine FWl.nil (hK11 _ _ ?_)
        clear hK11 K11
        refine FW.ret (thenF_ret (inBlockF_ret (thenF_ret (thenF_ret (inBlockF_ret (thenF_ret (?_)))))))
        refine ret_tmp (v := Value.bool false) Try.results13 (.inl rfl) rfl ?_
        exfalso; omega
      | false =>
        have hp37 : ¬ (x8.1 ≤ i) := of_decide_eq_false hb35
        refine FWl.val 22 rfl rfl (Value.pointer (some ⟨g13, 1, none⟩)) _ (r_indexArrS Try.underlying41 Try.sizeOf3 rfl rfl (by omega) (by omega) rfl) ?_
        refine FWl.val 23 rfl rfl (Value.int .i64 x8.2) _ (r_loadP1 Try.isAgg3 hcg29 rfl rfl hH32) ?_
        refine FWl.val 24 rfl rfl (Value.int .i64 j) _ (r_move) ?_
        refine FWl.val 25 rfl rfl (Value.bool (decide (x8.2 ≤ j))) _ (r_leq rfl rfl) ?_
        refine FWl.val 26 rfl rfl (Value.bool (decide (x8.2 ≤ j))) _ (r_pick (t := false) rfl) ?_
        refine FWl.val 27 rfl rfl (Value.bool (decide (x8.2 ≤ j))) _ (r_move) ?_
        cases hb38 : (decide (x8.2 ≤ j)) with
        | true =>
          have hp39 : x8.2 ≤ j := of_decide_eq_true hb38
          refine FWl.skip 28 rfl rfl ?_
          refine FWl.skip 29 rfl rfl ?_
          refine FWl.skip 30 rfl rfl ?_
          refine FWl.skip 31 rfl rfl ?_
          refine FWl.val 32 rfl rfl (Value.bool true) _ (r_pick (t := true) rfl) ?_
          refine FWl.val 33 rfl rfl (Value.bool true) _ (r_move) ?_
          refine FWl.skip 34 rfl rfl ?_
          refine FWl.skip 35 rfl rfl ?_
          refine FWl.skip 36 rfl rfl ?_
          refine FWl.skip 37 rfl rfl ?_
          refine FWl.val 38 rfl rfl (Value.bool true) _ (r_pick (t := true) rfl) ?_
          refine FWl.nil (hK10 _ _ ?_)
          clear hK10 K10
          refine FW.cond true rfl (fun _ => ?_) (fun h => nomatch h)
          refine FW.seq_k fun K12 hK12 => ?_
          refine FW.region rfl ?_
          refine FWl.val 6 rfl rfl (Value.bool false) _ (r_assign) ?_
          refine FWl.nil (hK12 _ _ ?_)
          clear hK12 K12
          refine FW.ret (thenF_ret (inBlockF_ret (thenF_ret (thenF_ret (inBlockF_ret (thenF_ret (?_)))))))
          refine ret_tmp (v := Value.bool false) Try.results13 (.inl rfl) rfl ?_
          exfalso; omega
        | false =>
          have hp40 : ¬ (x8.2 ≤ j) := of_decide_eq_false hb38
          refine FWl.val 28 rfl rfl (Value.pointer (some ⟨g13, 0, none⟩)) _ (r_indexArrS Try.underlying41 Try.sizeOf3 rfl rfl (by omega) (by omega) rfl) ?_
          refine FWl.val 29 rfl rfl (Value.int .i64 x8.1) _ (r_loadP1 Try.isAgg3 hcg29 rfl rfl hH32) ?_
          refine FWl.val 30 rfl rfl (Value.int .i64 n) _ (r_move) ?_
          refine FWl.val 31 rfl rfl (Value.bool (decide (n ≤ x8.1))) _ (r_geq rfl rfl) ?_
          refine FWl.val 32 rfl rfl (Value.bool (decide (n ≤ x8.1))) _ (r_pick (t := false) rfl) ?_
          refine FWl.val 33 rfl rfl (Value.bool (decide (n ≤ x8.1))) _ (r_move) ?_
          cases hb41 : (decide (n ≤ x8.1)) with
          | true =>
            have hp42 : n ≤ x8.1 := of_decide_eq_true hb41
            refine FWl.skip 34 rfl rfl ?_
            refine FWl.skip 35 rfl rfl ?_
            refine FWl.skip 36 rfl rfl ?_
            refine FWl.skip 37 rfl rfl ?_
            refine FWl.val 38 rfl rfl (Value.bool true) _ (r_pick (t := true) rfl) ?_
            refine FWl.nil (hK10 _ _ ?_)
            clear hK10 K10
            refine FW.cond true rfl (fun _ => ?_) (fun h => nomatch h)
            refine FW.seq_k fun K13 hK13 => ?_
            refine FW.region rfl ?_
            refine FWl.val 6 rfl rfl (Value.bool false) _ (r_assign) ?_
            refine FWl.nil (hK13 _ _ ?_)
            clear hK13 K13
            refine FW.ret (thenF_ret (inBlockF_ret (thenF_ret (thenF_ret (inBlockF_ret (thenF_ret (?_)))))))
            refine ret_tmp (v := Value.bool false) Try.results13 (.inl rfl) rfl ?_
            exfalso; omega
          | false =>
            have hp43 : ¬ (n ≤ x8.1) := of_decide_eq_false hb41
            refine FWl.val 34 rfl rfl (Value.pointer (some ⟨g13, 1, none⟩)) _ (r_indexArrS Try.underlying41 Try.sizeOf3 rfl rfl (by omega) (by omega) rfl) ?_
            refine FWl.val 35 rfl rfl (Value.int .i64 x8.2) _ (r_loadP1 Try.isAgg3 hcg29 rfl rfl hH32) ?_
            refine FWl.val 36 rfl rfl (Value.int .i64 m) _ (r_move) ?_
            refine FWl.val 37 rfl rfl (Value.bool (decide (m ≤ x8.2))) _ (r_geq rfl rfl) ?_
            refine FWl.val 38 rfl rfl (Value.bool (decide (m ≤ x8.2))) _ (r_pick (t := false) rfl) ?_
            refine FWl.nil (hK10 _ _ ?_)
            clear hK10 K10
            refine FW.cond (decide (m ≤ x8.2)) rfl (fun hc44 => ?_) (fun hc44 => ?_)
            · have hp45 : m ≤ x8.2 := of_decide_eq_true hc44
              refine FW.seq_k fun K14 hK14 => ?_
              refine FW.region rfl ?_
              refine FWl.val 6 rfl rfl (Value.bool false) _ (r_assign) ?_
              refine FWl.nil (hK14 _ _ ?_)
              clear hK14 K14
              refine FW.ret (thenF_ret (inBlockF_ret (thenF_ret (thenF_ret (inBlockF_ret (thenF_ret (?_)))))))
              refine ret_tmp (v := Value.bool false) Try.results13 (.inl rfl) rfl ?_
              exfalso; omega
            · have hp46 : ¬ (m ≤ x8.2) := of_decide_eq_false hc44
              refine FW.skip (hK9 _ _ ?_)
              clear hK9 K9
              refine FW.regionDraw mixed (SS C27 (fun _ => True) w21.drew) [] [(0, true), (1, true), (2, true), (3, true), (4, false), (5, false)] rfl (by kernel_rfl) ?_
              have e48 : Ext w21.heap.size w21 C27 w21.drew C27 := (Ext.refl hH32).drew
              generalize w21.drew = w47 at *
              have hL1_50 := hL1_31.step e48
              have hH51 := e48.has
              have hS52 : SS C27 (fun _ => True) w47 w47 := SS.refl hH51
              have hle53 := Gle.refl C27
              refine FWs.take rfl 39 rfl rfl (Value.pointer (some ⟨g13, 0, none⟩)) hS52 (fun _ _ => r_indexArrS Try.underlying41 Try.sizeOf3 rfl rfl (by omega) (by omega) rfl) ?_
              refine FWs.take rfl 40 rfl rfl (Value.int .i64 x8.1) hS52 (fun _ hS' => r_loadP1 Try.isAgg3 hcg29 rfl rfl hS'.has) ?_
              refine FWs.take rfl 41 rfl rfl (Value.pointer (some ⟨g13, 1, none⟩)) hS52 (fun _ _ => r_indexArrS Try.underlying41 Try.sizeOf3 rfl rfl (by omega) (by omega) rfl) ?_
              refine FWs.take rfl 42 rfl rfl (Value.int .i64 x8.2) hS52 (fun _ hS' => r_loadP1 Try.isAgg3 hcg29 rfl rfl hS'.has) ?_
              refine FWs.val rfl 7 rfl rfl (Value.int .i64 x8.1) _ (r_assign) (.inr hS52) ?_
              refine FWs.val rfl 8 rfl rfl (Value.int .i64 x8.2) _ (r_assign) (.inr hS52) ?_
              refine FWs.nil (hK7 _ _ ?_)
              clear hK7 K7
              refine FW.region rfl ?_
              refine FWl.val 43 rfl rfl (Value.int .i64 ((k : Int) + 1)) _ (r_addI rfl rfl (by omega) (by omega)) ?_
              refine FWl.val 13 rfl rfl (Value.int .i64 ((k : Int) + 1)) _ (r_move) ?_
              refine FWl.nil (thenF_norm (?_))
              refine ⟨_, ⟨C27, k + 1, _, _, ⟨rfl, rfl, rfl, rfl, rfl, rfl, rfl, rfl, trivial⟩, hL1_50, by omega, ok.next (by assumption), rfl⟩, ?_⟩
              omega
    · have hp54 : ¬ ((k : Int) < ((p.length : Nat) : Int)) := of_decide_eq_false hc6
      refine FW.exit (thenF_exit (thenF_exit (inBlockF_hit (hK3 _ _ ?_))))
      clear hK3 K3 hK6 K6
      refine FW.seq_k fun K15 hK15 => ?_
      refine FW.region rfl ?_
      refine FWl.val 6 rfl rfl (Value.bool true) _ (r_assign) ?_
      refine FWl.nil (hK15 _ _ ?_)
      clear hK15 K15
      refine FW.ret (?_)
      refine ret_tmp (v := Value.bool true) Try.results13 (.inl rfl) rfl ?_
      exact ⟨C2, rfl, hE_3⟩

theorem To1_c {gi : Nat} {i : Int} {x : Int × Int} {w : World} {C : Gh} (hH : Has w C) (st : St w C gi [.int .i64 i] 3) : Ret Try.prog 43 #[.agg #[.int .i64 x.1, .int .i64 x.2], .pointer (some ⟨gi, 0, none⟩)] w fun v w' => v = .bool (decide (x.1 = i)) ∧ ∃ C', Ext w.heap.size w C w' C' := by
  refine Ret.of Try.func43 rfl Try.ntmps43 rfl ?_
  have hE := Ext.refl (B := w.heap.size) hH
  refine FW.seq_k fun K1 hK1 => ?_
  refine FW.region rfl ?_
  refine FWl.box (cs := [Value.int .i64 x.1, Value.int .i64 x.2]) rfl rfl rfl rfl rfl hH ?_
  intro g1 w2 st3 e4 hg5
  have hge_st3_hE := Nat.le_trans hE.size (Nat.le_of_eq hg5)
  have hE_6 := hE.step e4
  have st_7 := st.call e4
  have hlt_st3 := st3.lt
  refine FWl.val 3 rfl rfl (Value.bool false) _ (r_assign) ?_
  refine FWl.nil (hK1 _ _ ?_)
  clear hK1 K1
  refine FW.seq_k fun K2 hK2 => ?_
  refine FW.region rfl ?_
  refine FWl.val 4 rfl rfl (Value.pointer (some ⟨g1, 0, none⟩)) _ (r_indexArrS Try.underlying41 Try.sizeOf3 rfl rfl (by omega) (by omega) rfl) ?_
  refine FWl.val 5 rfl rfl (Value.int .i64 x.1) _ (r_load1 Try.isAgg3 rfl (st3.cell rfl)) ?_
  refine FWl.val 6 rfl rfl (Value.int .i64 i) _ (r_load1 Try.isAgg3 rfl (st_7.cell rfl)) ?_
  refine FWl.val 7 rfl rfl (Value.bool (decide (x.1 = i))) _ (r_eql rfl rfl) ?_
  refine FWl.val 3 rfl rfl (Value.bool (decide (x.1 = i))) _ (r_assign) ?_
  refine FWl.nil (hK2 _ _ ?_)
  clear hK2 K2
  refine FW.ret (?_)
  refine ret_tmp (v := Value.bool (decide (x.1 = i))) Try.results43 (.inl rfl) rfl ?_
  exact ⟨rfl, C, hE_6⟩

theorem IndexFunc_c {A : Option Addr} {c fd : Nat} {cap : Array Value} {p : List (Int × Int)} {f : Int × Int → Bool} {R : World → Gh → Prop} {w : World} {C : Gh} (hH : Has w C) (hp : Sl kPair C A c p) (hcall : ∀ (args : Array Value) (w : World), (callFunc fd args).run Try.prog w = .ok (.enter fd args) w) (hRc : ∀ w C w' C', R w C → Ext w.heap.size w C w' C' → R w' C') (hf : ∀ w C x, Has w C → R w C → Ret Try.prog fd (#[.agg #[.int .i64 x.1, .int .i64 x.2]] ++ cap) w fun v w' => v = .bool (f x) ∧ ∃ C', Ext w.heap.size w C w' C') (hR : R w C) : Ret Try.prog 42 #[.slice A p.length c, .func (.func fd) #[] cap] w fun v w' => v = .int .i64 (findIx f p) ∧ ∃ C', Ext w.heap.size w C w' C' := by
  refine Ret.of Try.func42 rfl Try.ntmps42 rfl ?_
  have hE := Ext.refl (B := w.heap.size) hH; have hpl := hp.bd
  have ha1 := Ext.refl (B := w.heap.size) hH
  refine FW.seq_k fun K1 hK1 => ?_
  refine FW.region rfl ?_
  refine FWl.val 4 rfl rfl (Value.int .i64 0) _ (r_assign) ?_
  refine FWl.nil (hK1 _ _ ?_)
  clear hK1 K1
  refine FW.seq_k fun K2 hK2 => ?_
  refine FW.seq_k fun K3 hK3 => ?_
  refine FW.region rfl ?_
  refine FWl.val 6 rfl rfl (Value.slice A p.length c) _ (r_move) ?_
  refine FWl.val 7 rfl rfl (Value.int .i64 ((p.length : Nat) : Int)) _ (r_lenSl Try.underlying36 rfl) ?_
  refine FWl.val 8 rfl rfl (Value.int .i64 0) _ (r_move) ?_
  refine FWl.nil (hK3 _ _ ?_)
  clear hK3 K3
  refine FW.block ?_
  refine FW.loop_m (fun msr T w2 => ∃ (C3 : Gh) (k : Nat), Holds T [(0, Value.slice A p.length c), (1, Value.func (.func fd) #[] cap), (6, Value.slice A p.length c), (7, Value.int .i64 ((p.length : Nat) : Int)), (8, Value.int .i64 (k : Int))] ∧ Ext (w.heap.size) w C w2 C3 ∧ (k ≤ p.length) ∧ (∀ y ∈ p.take k, f y = false) ∧ msr = p.length - k) (p.length - 0) ?_ ?_
  · exact ⟨C, 0, ⟨rfl, rfl, rfl, rfl, rfl, trivial⟩, Ext.refl hH, Nat.zero_le _, by simp, rfl⟩
  · rintro msr T w2 ⟨C3, k, hT, hL1, hk, hall, rfl⟩
    refine FW.frame hT fun B1 => ?_
    have hE_4 := hE.step hL1
    have ha1_5 := ha1.step hL1
    have hp_6 := hp.mono hL1.le
    have hH7 := hL1.has
    refine FW.seq_k fun K4 hK4 => ?_
    refine FW.region rfl ?_
    refine FWl.val 9 rfl rfl (Value.bool (decide ((k : Int) < ((p.length : Nat) : Int)))) _ (r_lss rfl rfl) ?_
    refine FWl.nil (hK4 _ _ ?_)
    clear hK4 K4
    refine FW.seq_k fun K5 hK5 => ?_
    refine FW.cond (decide ((k : Int) < ((p.length : Nat) : Int))) rfl (fun hc8 => ?_) (fun hc8 => ?_)
    · have hp9 : (k : Int) < ((p.length : Nat) : Int) := of_decide_eq_true hc8
      refine FW.skip (hK5 _ _ ?_)
      clear hK5 K5
      refine FW.seq_k fun K6 hK6 => ?_
      refine FW.block ?_
      refine FW.seq_k fun K7 hK7 => ?_
      refine FW.region rfl ?_
      refine FWl.val 10 rfl rfl (Value.int .i64 (k : Int)) _ (r_move) ?_
      refine FWl.val 5 rfl rfl (Value.int .i64 (k : Int)) _ (r_assign) ?_
      refine FWl.nil (hK7 _ _ ?_)
      clear hK7 K7
      refine FW.seq_k fun K8 hK8 => ?_
      refine FW.region rfl ?_
      refine FWl.val 11 rfl rfl (Value.func (.func fd) #[] cap) _ (r_move) ?_
      refine FWl.val 12 rfl rfl (Value.slice A p.length c) _ (r_move) ?_
      refine FWl.val 13 rfl rfl (Value.int .i64 (k : Int)) _ (r_move) ?_
      obtain ⟨x10, hx11⟩ := get_some (xs := p) (j := k) (by omega)
      obtain ⟨cs12, hr13, hg14⟩ := hp_6.at_ _ _ hx11
      obtain rfl := hr13
      refine FWl.val 14 rfl rfl (ptrAt A (((k : Int)).toNat * 2)) _ (r_indexAddr Try.underlying36 Try.sizeOf41 rfl rfl (hp_6.isSome (by omega)) (by omega) (by omega)) ?_
      refine FWl.val 15 rfl rfl (Value.agg #[Value.int .i64 x10.1, Value.int .i64 x10.2]) _ (r_loadGN Try.isAgg41 Try.sizeOf41 hg14 rfl hH7) ?_
      have hA18 := hRc _ _ _ _ hR ha1_5
      refine FWl.call 16 rfl rfl fd (#[Value.agg #[Value.int .i64 x10.1, Value.int .i64 x10.2]] ++ cap) (r_callV1 hcall rfl rfl rfl) ((hf _ _ x10 hH7 hA18).mono ?_)
      rintro _ w17 ⟨rfl, C15, e16⟩
      have hE_19 := hE_4.step e16
      have hL1_21 := hL1.step e16
      refine FWl.nil (hK8 _ _ ?_)
      clear hK8 K8
      refine FW.cond (f x10) rfl (fun hc25 => ?_) (fun hc25 => ?_)
      · refine FW.seq_k fun K9 hK9 => ?_
        refine FW.region rfl ?_
        refine FWl.val 17 rfl rfl (Value.int .i64 (k : Int)) _ (r_move) ?_
        refine FWl.val 4 rfl rfl (Value.int .i64 (k : Int)) _ (r_assign) ?_
        refine FWl.nil (hK9 _ _ ?_)
        clear hK9 K9
        refine FW.ret (inBlockF_ret (thenF_ret (thenF_ret (inBlockF_ret (thenF_ret (?_))))))
        refine ret_tmp (v := Value.int .i64 (k : Int)) Try.results42 (.inl rfl) rfl ?_
        exact ⟨congrArg (Value.int .i64) (findIx_some (by assumption) (by assumption) hall).symm, C15, hE_19⟩
      · refine FW.skip (hK6 _ _ ?_)
        clear hK6 K6
        refine FW.region rfl ?_
        refine FWl.val 18 rfl rfl (Value.int .i64 ((k : Int) + 1)) _ (r_addI rfl rfl (by omega) (by omega)) ?_
        refine FWl.val 8 rfl rfl (Value.int .i64 ((k : Int) + 1)) _ (r_move) ?_
        refine FWl.nil (thenF_norm (?_))
        refine ⟨_, ⟨C15, k + 1, ⟨rfl, rfl, rfl, rfl, rfl, trivial⟩, hL1_21, by omega, mem_take_succ (by assumption) hall (by assumption), rfl⟩, ?_⟩
        omega
    · have hp28 : ¬ ((k : Int) < ((p.length : Nat) : Int)) := of_decide_eq_false hc8
      refine FW.exit (thenF_exit (thenF_exit (inBlockF_hit (hK2 _ _ ?_))))
      clear hK2 K2 hK5 K5
      refine FW.seq_k fun K10 hK10 => ?_
      refine FW.region rfl ?_
      refine FWl.val 4 rfl rfl (Value.int .i64 (-1)) _ (r_assign) ?_
      refine FWl.nil (hK10 _ _ ?_)
      clear hK10 K10
      refine FW.ret (?_)
      refine ret_tmp (v := Value.int .i64 (-1)) Try.results42 (.inl rfl) rfl ?_
      exact ⟨congrArg (Value.int .i64) (findIx_none (by omega) hall).symm, C3, hE_4⟩

theorem To_c {A : Option Addr} {c : Nat} {p : List (Int × Int)} {i : Int} {w : World} {C : Gh} (hH : Has w C) (hp : Sl kPair C A c p) : Ret Try.prog 22 #[Value.slice A p.length c, Value.int .i64 i] w fun v w' => ∃ (C' : Gh), v = Value.tuple #[Value.int .i64 ((toS p i).getD 0), Value.bool ((toS p i).isSome)] ∧ Ext w.heap.size w C w' C' := by
  refine Ret.of Try.func22 rfl Try.ntmps22 rfl ?_
  have hE := Ext.refl (B := w.heap.size) hH
  have bd_hp := hp.bd
  refine FW.seq_k fun K1 hK1 => ?_
  refine FW.region rfl ?_
  refine FWl.box (cs := [Value.int .i64 i]) rfl rfl rfl rfl rfl hH ?_
  intro g1 w2 st3 e4 hg5
  have hge_st3_hE := Nat.le_trans hE.size (Nat.le_of_eq hg5)
  have hE_6 := hE.step e4
  have hH7 := e4.has
  have hlt_st3 := st3.lt
  refine FWl.val 4 rfl rfl (Value.int .i64 0) _ (r_assign) ?_
  refine FWl.val 5 rfl rfl (Value.bool false) _ (r_assign) ?_
  refine FWl.nil (hK1 _ _ ?_)
  clear hK1 K1
  refine FW.seq_k fun K2 hK2 => ?_
  refine FW.region rfl ?_
  refine FWl.val 7 rfl rfl (Value.slice A p.length c) _ (r_move) ?_
  refine FWl.val 8 rfl rfl (Value.func (.func 43) #[] #[Value.pointer (some ⟨g1, 0, none⟩)]) _ (r_makeFunc1 rfl) ?_
  refine FWl.call 9 rfl rfl 42 #[Value.slice A p.length c, Value.func (.func 43) #[] #[Value.pointer (some ⟨g1, 0, none⟩)]] (r_call2 Try.call42 rfl rfl rfl) ((IndexFunc_c (fd := 43) (cap := #[Value.pointer (some ⟨g1, 0, none⟩)]) (f := fun x => decide (x.1 = i)) (R := fun w C => St w C g1 [.int .i64 i] 3) hH7 hp Try.call43 (fun _ _ _ _ h e => h.call e) (fun _ _ _ hH' st' => To1_c hH' st') st3).mono ?_)
  rintro _ w10 ⟨rfl, C8, e9⟩
  have hE_11 := hE_6.step e9
  have hp_13 := hp.mono e9.le
  have hH14 := e9.has
  have hfi := findIx_lt (fun x => decide (x.1 = i)) p
  refine FWl.val 6 rfl rfl (Value.int .i64 (findIx (fun x => decide (x.1 = i)) p)) _ (r_assign) ?_
  refine FWl.nil (hK2 _ _ ?_)
  clear hK2 K2
  refine FW.seq_k fun K3 hK3 => ?_
  refine FW.seq_k fun K4 hK4 => ?_
  refine FW.region rfl ?_
  refine FWl.val 10 rfl rfl (Value.int .i64 (findIx (fun x => decide (x.1 = i)) p)) _ (r_move) ?_
  refine FWl.val 11 rfl rfl (Value.bool (decide ((findIx (fun x => decide (x.1 = i)) p) < 0))) _ (r_lss rfl rfl) ?_
  refine FWl.nil (hK4 _ _ ?_)
  clear hK4 K4
  refine FW.cond (decide ((findIx (fun x => decide (x.1 = i)) p) < 0)) rfl (fun hc15 => ?_) (fun hc15 => ?_)
  · have hp16 : (findIx (fun x => decide (x.1 = i)) p) < 0 := of_decide_eq_true hc15
    refine FW.seq_k fun K5 hK5 => ?_
    refine FW.region rfl ?_
    refine FWl.val 4 rfl rfl (Value.int .i64 0) _ (r_assign) ?_
    refine FWl.val 5 rfl rfl (Value.bool false) _ (r_assign) ?_
    refine FWl.nil (hK5 _ _ ?_)
    clear hK5 K5
    refine FW.ret (thenF_ret (?_))
    refine ret_tmp2 (v := Value.int .i64 0) (v' := Value.bool false) Try.results22 (.inl rfl) rfl rfl ?_
    exact ⟨C8, by rw [toS_none (by assumption)]; rfl, hE_11⟩
  · have hp17 : ¬ ((findIx (fun x => decide (x.1 = i)) p) < 0) := of_decide_eq_false hc15
    refine FW.skip (hK3 _ _ ?_)
    clear hK3 K3
    refine FW.seq_k fun K6 hK6 => ?_
    refine FW.region rfl ?_
    refine FWl.val 12 rfl rfl (Value.slice A p.length c) _ (r_move) ?_
    refine FWl.val 13 rfl rfl (Value.int .i64 (findIx (fun x => decide (x.1 = i)) p)) _ (r_move) ?_
    obtain ⟨x18, hx19⟩ := get_some (xs := p) (j := (findIx (fun x => decide (x.1 = i)) p).toNat) (by omega)
    obtain ⟨cs20, hr21, hg22⟩ := hp_13.at_ _ _ hx19
    obtain rfl := hr21
    refine FWl.val 14 rfl rfl (ptrAt A ((findIx (fun x => decide (x.1 = i)) p).toNat * 2)) _ (r_indexAddr Try.underlying36 Try.sizeOf41 rfl rfl (hp_13.isSome (by omega)) (by omega) (by omega)) ?_
    refine FWl.val 15 rfl rfl (ptrAt A ((findIx (fun x => decide (x.1 = i)) p).toNat * 2 + 1)) _ (r_indexArrAt Try.underlying41 Try.sizeOf3 (hp_13.isSome (by omega)) rfl rfl (by omega) (by omega) rfl) ?_
    refine FWl.val 16 rfl rfl (Value.int .i64 x18.2) _ (r_loadG1 (i := 1) Try.isAgg3 hg22 rfl rfl hH14) ?_
    refine FWl.val 4 rfl rfl (Value.int .i64 x18.2) _ (r_assign) ?_
    refine FWl.val 5 rfl rfl (Value.bool true) _ (r_assign) ?_
    refine FWl.nil (hK6 _ _ ?_)
    clear hK6 K6
    refine FW.ret (?_)
    refine ret_tmp2 (v := Value.int .i64 x18.2) (v' := Value.bool true) Try.results22 (.inl rfl) rfl rfl ?_
    exact ⟨C8, by rw [toS_some (by assumption) (by assumption)]; rfl, hE_11⟩

theorem Compose_c {A A2 : Option Addr} {c c2 : Nat} {p q : List (Int × Int)} {w : World} {C : Gh} (hH : Has w C) (hp : Sl kPair C A c p) (hq : Sl kPair C A2 c2 q) (hpb : p.length ≤ 100000) : Ret Try.prog 11 #[Value.slice A p.length c, Value.slice A2 q.length c2] w fun v w' => ∃ (C' : Gh) (A' : Option Addr) (c' : Nat), v = Value.slice A' ((compS p q).length) c' ∧ Ext w.heap.size w C w' C' ∧ Sl kPair C' A' c' (compS p q) := by
  refine Ret.of Try.func11 rfl Try.ntmps11 rfl ?_
  have hE := Ext.refl (B := w.heap.size) hH
  have bd_hp := hp.bd
  have bd_hq := hq.bd
  have hplb := hp.bd
  refine FW.seq_k fun K1 hK1 => ?_
  refine FW.region rfl ?_
  refine FWl.val 4 rfl rfl (Value.slice none 0 0) _ (r_assign) ?_
  refine FWl.nil (hK1 _ _ ?_)
  clear hK1 K1
  refine FW.seq_k fun K2 hK2 => ?_
  refine FW.region rfl ?_
  refine FWl.val 5 rfl rfl (Value.slice none 0 0) _ (r_assign) ?_
  refine FWl.nil (hK2 _ _ ?_)
  clear hK2 K2
  refine FW.seq_k fun K3 hK3 => ?_
  refine FW.seq_k fun K4 hK4 => ?_
  refine FW.region rfl ?_
  refine FWl.val 10 rfl rfl (Value.slice A p.length c) _ (r_move) ?_
  refine FWl.val 11 rfl rfl (Value.int .i64 ((p.length : Nat) : Int)) _ (r_lenSl Try.underlying36 rfl) ?_
  refine FWl.val 12 rfl rfl (Value.int .i64 0) _ (r_move) ?_
  refine FWl.nil (hK4 _ _ ?_)
  clear hK4 K4
  refine FW.block ?_
  refine FW.loop_m (fun msr T w1 => ∃ (C2 : Gh) (k : Nat) (Ao : Option Addr) (co : Nat) (out : List (Int × Int)), Holds T [(0, Value.slice A p.length c), (1, Value.slice A2 q.length c2), (4, Value.slice none 0 0), (5, Value.slice Ao out.length co), (10, Value.slice A p.length c), (11, Value.int .i64 ((p.length : Nat) : Int)), (12, Value.int .i64 (k : Int))] ∧ Ext (w.heap.size) w C w1 C2 ∧ (k ≤ p.length) ∧ (Sl kPair C2 Ao co out) ∧ (Own w.heap.size 41 2 w1 C2 Ao out.length co) ∧ (out = compS (p.take k) q) ∧ msr = p.length - k) (p.length - 0) ?_ ?_
  · exact ⟨C, 0, none, 0, [], ⟨rfl, rfl, rfl, rfl, rfl, rfl, rfl, trivial⟩, Ext.refl hH, Nat.zero_le _, Sl.nil _ _ _ _, Own.nil, by simp [compS], rfl⟩
  · rintro msr T w1 ⟨C2, k, Ao, co, out, hT, hL1, hk, hso, oo, hout, rfl⟩
    refine FW.frame hT fun B1 => ?_
    have hE_3 := hE.trans hL1
    have hp_4 := hp.mono hL1.le
    have hq_5 := hq.mono hL1.le
    have hH6 := hL1.has
    have hol := compS_len (p.take k) q
    rw [← hout, List.length_take] at hol
    refine FW.seq_k fun K5 hK5 => ?_
    refine FW.region rfl ?_
    refine FWl.val 13 rfl rfl (Value.bool (decide ((k : Int) < ((p.length : Nat) : Int)))) _ (r_lss rfl rfl) ?_
    refine FWl.nil (hK5 _ _ ?_)
    clear hK5 K5
    refine FW.seq_k fun K6 hK6 => ?_
    refine FW.cond (decide ((k : Int) < ((p.length : Nat) : Int))) rfl (fun hc7 => ?_) (fun hc7 => ?_)
    · have hp8 : (k : Int) < ((p.length : Nat) : Int) := of_decide_eq_true hc7
      refine FW.skip (hK6 _ _ ?_)
      clear hK6 K6
      refine FW.seq_k fun K7 hK7 => ?_
      refine FW.block ?_
      refine FW.seq_k fun K8 hK8 => ?_
      refine FW.region rfl ?_
      obtain ⟨x9, hx10⟩ := get_some (xs := p) (j := k) (by omega)
      obtain ⟨cs11, hr12, hg13⟩ := hp_4.at_ _ _ hx10
      obtain rfl := hr12
      refine FWl.val 14 rfl rfl (ptrAt A (((k : Int)).toNat * 2)) _ (r_indexAddr Try.underlying36 Try.sizeOf41 rfl rfl (hp_4.isSome (by omega)) (by omega) (by omega)) ?_
      refine FWl.val 15 rfl rfl (Value.agg #[Value.int .i64 x9.1, Value.int .i64 x9.2]) _ (r_loadGN Try.isAgg41 Try.sizeOf41 hg13 rfl hH6) ?_
      refine FWl.alloc (cs := [Value.int .i64 0, Value.int .i64 0]) rfl rfl rfl Try.zeroValue41 rfl hH6 ?_
      intro g14 w15 st16 e17 hg18
      have hge_st16_hE := Nat.le_trans hE_3.size (Nat.le_of_eq hg18)
      have hge_st16_hL1 := Nat.le_trans hL1.size (Nat.le_of_eq hg18)
      have hE_19 := hE_3.step e17
      have hL1_20 := hL1.trans (e17.mono hE_3.size)
      have oo_21 := oo.call e17
      have hH22 := e17.has
      have hlt_st16 := st16.lt
      have nb23 := oo.nb (Nat.le_of_eq hg18)
      refine FWl.store (vs := [Value.int .i64 x9.1, Value.int .i64 x9.2]) (cs' := [Value.int .i64 x9.1, Value.int .i64 x9.2]) rfl rfl rfl Try.sizeOf41 rfl st16 hH22 rfl rfl rfl rfl rfl rfl ?_
      intro w24 m25 st16_26
      have hE_27 := hE_19.trans (m25.ext hE_19.size (by omega))
      have hL1_28 := hL1_20.trans (m25.ext hE_19.size (by omega))
      have oo_29 := oo_21.mut m25 nb23
      have hH30 := m25.has
      obtain ⟨C31, m32, hcg33⟩ := st16_26.commit hH30
      have hE_34 := hE_27.trans (m32.ext hE_27.size (by omega))
      have hL1_35 := hL1_28.trans (m32.ext hE_27.size (by omega))
      have oo_36 := oo_29.mut m32 nb23
      have hH37 := m32.has
      have hq_39 := hq_5.mono m32.le
      have hso_40 := hso.mono m32.le
      refine FWl.nil (hK8 _ _ ?_)
      clear hK8 K8
      refine FW.seq_k fun K9 hK9 => ?_
      refine FW.region rfl ?_
      refine FWl.val 17 rfl rfl (Value.slice A2 q.length c2) _ (r_move) ?_
      refine FWl.val 18 rfl rfl (Value.pointer (some ⟨g14, 1, none⟩)) _ (r_indexArrS Try.underlying41 Try.sizeOf3 rfl rfl (by omega) (by omega) rfl) ?_
      refine FWl.val 19 rfl rfl (Value.int .i64 x9.2) _ (r_loadP1 Try.isAgg3 hcg33 rfl rfl hH37) ?_
      refine FWl.call 20 rfl rfl 22 #[Value.slice A2 q.length c2, Value.int .i64 x9.2] (r_call2 Try.call22 rfl rfl rfl) ((To_c hH37 hq_39).mono ?_)
      rintro _ w42 ⟨C43, rfl, e44⟩
      have hE_45 := hE_34.step e44
      have hL1_46 := hL1_35.trans (e44.mono hE_34.size)
      have oo_47 := oo_36.call e44
      have hso_50 := hso_40.mono e44.le
      have hcg33_52 := hcg33.mono e44.le
      have hH53 := e44.has
      refine FWl.val 16 rfl rfl (Value.tuple #[Value.int .i64 ((toS q x9.2).getD 0), Value.bool ((toS q x9.2).isSome)]) _ (r_move) ?_
      refine FWl.val 21 rfl rfl (Value.int .i64 ((toS q x9.2).getD 0)) _ (r_extract rfl rfl) ?_
      refine FWl.val 22 rfl rfl (Value.bool ((toS q x9.2).isSome)) _ (r_extract rfl rfl) ?_
      refine FWl.val 8 rfl rfl (Value.int .i64 ((toS q x9.2).getD 0)) _ (r_assign) ?_
      refine FWl.val 9 rfl rfl (Value.bool ((toS q x9.2).isSome)) _ (r_assign) ?_
      refine FWl.nil (hK9 _ _ ?_)
      clear hK9 K9
      refine FW.seq_k fun K10 hK10 => ?_
      refine FW.region rfl ?_
      refine FWl.val 23 rfl rfl (Value.bool ((toS q x9.2).isSome)) _ (r_move) ?_
      refine FWl.nil (hK10 _ _ ?_)
      clear hK10 K10
      refine FW.cond ((toS q x9.2).isSome) rfl (fun hc54 => ?_) (fun hc54 => ?_)
      · refine FW.region rfl ?_
        refine FWl.val 24 rfl rfl (Value.slice Ao out.length co) _ (r_move) ?_
        refine FWl.val 25 rfl rfl (Value.pointer (some ⟨g14, 0, none⟩)) _ (r_indexArrS Try.underlying41 Try.sizeOf3 rfl rfl (by omega) (by omega) rfl) ?_
        refine FWl.val 26 rfl rfl (Value.int .i64 x9.1) _ (r_loadP1 Try.isAgg3 hcg33_52 rfl rfl hH53) ?_
        refine FWl.val 27 rfl rfl (Value.int .i64 ((toS q x9.2).getD 0)) _ (r_move) ?_
        refine FWl.val 28 rfl rfl (Value.agg #[Value.int .i64 x9.1, Value.int .i64 ((toS q x9.2).getD 0)]) _ (r_build (by kernel_rfl)) ?_
        refine FWl.lit (K := kPair) (xs := [(⟨x9.1, (toS q x9.2).getD 0⟩ : (Int × Int))]) (cs := [Value.int .i64 x9.1, Value.int .i64 ((toS q x9.2).getD 0)]) rfl rfl rfl Try.underlying36 info41 zero41 rfl (by kernel_rfl) (.cons (cs := [Value.int .i64 x9.1, Value.int .i64 ((toS q x9.2).getD 0)]) (kPair_mk) .nil) rfl hH53 ?_
        intro A56 w57 C58 hs59 e60 hcg61
        have hE_62 := hE_45.step e60
        have hL1_63 := hL1_46.trans (e60.mono hE_45.size)
        have oo_64 := oo_47.call e60
        have hso_67 := hso_50.mono e60.le
        have hH70 := e60.has
        refine FWl.app (K := kPair) (B := w.heap.size) (xs := out) (ys := [(⟨x9.1, (toS q x9.2).getD 0⟩ : (Int × Int))]) (sz := 2) (bytes := 16) rfl rfl rfl Try.underlying36 info41 zero41 rfl rfl rfl rfl rfl rfl rfl hso_67 oo_64 hs59 hH70 hE_62.size (by simp only [List.length_cons, List.length_nil]; omega) (by simp only [List.length_cons, List.length_nil]; omega) ?_
        intro A71 c72 w73 C74 hs75 ow76 e77 ap78
        have hL1_80 := hL1_63.trans e77
        refine FWl.val 5 rfl rfl (Value.slice A71 ((out ++ ([(⟨x9.1, (toS q x9.2).getD 0⟩ : (Int × Int))])).length) c72) _ (r_assign) ?_
        refine FWl.nil (hK7 _ _ ?_)
        clear hK7 K7
        refine FW.region rfl ?_
        refine FWl.val 31 rfl rfl (Value.int .i64 ((k : Int) + 1)) _ (r_addI rfl rfl (by omega) (by omega)) ?_
        refine FWl.val 12 rfl rfl (Value.int .i64 ((k : Int) + 1)) _ (r_move) ?_
        refine FWl.nil (thenF_norm (?_))
        refine ⟨_, ⟨C74, k + 1, A71, c72, out ++ ([(⟨x9.1, (toS q x9.2).getD 0⟩ : (Int × Int))]), ⟨rfl, rfl, rfl, rfl, rfl, rfl, rfl, trivial⟩, hL1_80, by omega, hs75, ow76, by rw [compS_yes (by assumption) (by assumption), hout], rfl⟩, ?_⟩
        omega
      · refine FW.skip (hK7 _ _ ?_)
        clear hK7 K7
        refine FW.region rfl ?_
        refine FWl.val 31 rfl rfl (Value.int .i64 ((k : Int) + 1)) _ (r_addI rfl rfl (by omega) (by omega)) ?_
        refine FWl.val 12 rfl rfl (Value.int .i64 ((k : Int) + 1)) _ (r_move) ?_
        refine FWl.nil (thenF_norm (?_))
        refine ⟨_, ⟨C43, k + 1, Ao, co, out, ⟨rfl, rfl, rfl, rfl, rfl, rfl, rfl, trivial⟩, hL1_46, by omega, hso_50, oo_47, by rw [compS_no (by assumption) (by assumption)]; exact hout, rfl⟩, ?_⟩
        omega
    · have hp90 : ¬ ((k : Int) < ((p.length : Nat) : Int)) := of_decide_eq_false hc7
      refine FW.exit (thenF_exit (thenF_exit (inBlockF_hit (hK3 _ _ ?_))))
      clear hK3 K3 hK6 K6
      refine FW.seq_k fun K11 hK11 => ?_
      refine FW.region rfl ?_
      refine FWl.val 32 rfl rfl (Value.slice Ao out.length co) _ (r_move) ?_
      refine FWl.val 4 rfl rfl (Value.slice Ao out.length co) _ (r_assign) ?_
      refine FWl.nil (hK11 _ _ ?_)
      clear hK11 K11
      refine FW.ret (?_)
      refine ret_tmp (v := Value.slice Ao out.length co) Try.results11 (.inl rfl) rfl ?_
      rw [List.take_of_length_le (by omega)] at hout
      subst hout
      exact ⟨C2, Ao, co, rfl, hE_3, hso⟩

end Go.Proofs.Ytlofomkhiefbmaa
