/- For every policy, items, floor, labels and hidden text jalousietop.TopCutOut returns true and leaves its arguments as they read. Condition: the package-level variables that the card lists hold what the program's text lays (the card ties them). -/
import Derived.Test.YtlofomkhiefbmaaGreatDoorPK5
import Derived.Deep.DeepHandedRow
import Derived.LaidHandle
import Derived.Lib.LaidTab
import Derived.SevenTiedAt
import Derived.Shelf.Vars
import Derived.Test.YtlofomkhiefbmaaGreatDoorCards
import Derived.Test.YtlofomkhiefbmaaGreatDoorTie
set_option linter.unusedVariables false
set_option maxRecDepth 100000
namespace Go.Proofs.YtlofomkhiefbmaaGreatDoor
open Go.ChangeShapes Go.WideShapes Go.ChangeAt Go.RowKit Go.Deep
theorem own : ownKnob Tryz.prog.godebug = none := by kernel_rfl
theorem laidOut : laidOutB Tryz.prog = true := by kernel_rfl
theorem cells37 : Tryz.prog.cellsOf 37 = 6 := by kernel_rfl
theorem cells29 : Tryz.prog.cellsOf 29 = 2 := by kernel_rfl
theorem cells35 : Tryz.prog.cellsOf 35 = 2 := by kernel_rfl
theorem cells3 : Tryz.prog.cellsOf 3 = 1 := by kernel_rfl
theorem cells27 : Tryz.prog.cellsOf 27 = 1 := by kernel_rfl
theorem cells9 : Tryz.prog.cellsOf 9 = 1 := by kernel_rfl
theorem cells4 : Tryz.prog.cellsOf 4 = 1 := by kernel_rfl
theorem bytes37 : Tryz.prog.bytesOf 37 = 56 := by kernel_rfl
theorem gTab : Tryz.prog.globalNamed "math/bits.deBruijn64tab" = some 1 := by kernel_rfl
theorem tTab : (Tryz.prog.globals[1]?).map (·.type) = some 252 := by kernel_rfl
theorem cellsTab : Tryz.prog.cellsOf 252 = 64 := by kernel_rfl
theorem cellsByte : Tryz.prog.cellsOf 5 = 1 := by kernel_rfl
theorem max_cell (w : World) (h : w.ShapedOpen Tryz.prog) : ∃ m, w.cell? ⟨0, 0, none⟩ = some (.int .i64 m) :=
  Go.Proofs.cell_of_shapedOpen_int (zero := #[.int .i64 0]) (t := 3) h (of_decide_eq_true (by kernel_rfl)) (by kernel_rfl) rfl (by kernel_rfl) (by kernel_rfl) Tryz.underlying3
instance : Inhabited Item := ⟨⟨0, ⟨0, 0#64⟩, false, ⟨ByteArray.empty, false⟩⟩⟩
theorem laid_plain {l : List (String × DataW Unit)} {w : World} (h : laidMet Tryz.prog l w) (hn : (l.filter fun x => x.2.handleName?.isNone) = l) (hh : (l.filter fun x => x.2.handleName?.isSome && x.2.funcsIn?.isNone) = []) (hf : funcsListed l = []) : laidMetH Tryz.prog l w :=
  laidMetH_of_parts3 (fuel := 8) (by rw [hn]; exact h) (by rw [hh]; rfl) (by rw [hf]; kernel_rfl)
theorem tab_of_laid {w : World} {l : List (String × DataW Unit)} (h : laidMetH Tryz.prog (("math/bits.deBruijn64tab", Rows.laid_math_bits_deBruijn64tab) :: l) w) (hp : (("math/bits.deBruijn64tab", Rows.laid_math_bits_deBruijn64tab) :: l).all (fun x => x.2.handleName?.isNone) = true) : TabC (allC w) := by
  rw [MakeChecks.laidMetH_plain _ _ _ hp] at h
  have hT := Lib.tabIs_of_head (zs := Lib.deBruijn64tab.map fun n : Nat => (n : Int)) (k := .u8) gTab tTab Tryz.underlying252 Tryz.underlying5 cellsByte cellsTab h
  intro j hj
  have hl : (Lib.deBruijn64tab.map fun n : Nat => (n : Int)).length = 64 := by kernel_rfl
  have hc := hT.cell gTab j (by omega)
  show w.cell? ⟨1, j, none⟩ = _
  rw [hc]
  congr 2
  simp only [List.getD_eq_getElem?_getD, List.getElem?_map]
  cases Lib.deBruijn64tab[j]? <;> rfl
/-! ### a world in which the tables lie -/
def litV : DataW Unit → Value
  | .lit (.int k z) => .int k z
  | _ => undef
def litsV : DataW Unit → List Value
  | .agg l => l.map litV
  | _ => []
def rowsV : DataW Unit → List Value
  | .agg l => l.flatMap litsV
  | _ => []
def putV (l : List Value) : Obj → Obj
  | .cells _ t frozen => .cells l.toArray t frozen
  | o => o
noncomputable def laidW (os : Os) : World :=
  { World.holding Tryz.prog os ⟨#[], #[], []⟩ with heap := (((World.holding Tryz.prog os ⟨#[], #[], []⟩).heap.modify 1 (putV (litsV Rows.laid_math_bits_deBruijn64tab))).modify 2 (putV (litsV Rows.laid_unicode_utf8_first))).modify 3 (putV (rowsV Rows.laid_unicode_utf8_acceptRanges)) }
theorem open_items {H : Type} {enc : TypeId × Value → H} {W : World} {base : Nat} {spare : Nat → Bool} {held : Bool} {A : Option Addr} {len cap : Nat} {d : DataW H} {ps : List MemPlace} (hb : len ≤ 140737488355328)
    (h : DataW.Trod enc Tryz.prog W base spare held 26 (.slice A len cap) d ps) : ∃ xs : List Item, xs.length = len ∧ Sl kItem (allC W) A cap xs := by
  obtain ⟨fuel, hf⟩ := h
  exact open_sl kItem Tryz.underlying26 cells37 (by decide) (el_item Tryz.underlying37 Tryz.underlying3 Tryz.underlying29 Tryz.underlying4 Tryz.underlying35 Tryz.underlying3 Tryz.underlying27 Tryz.underlying9 Tryz.underlying4 cells3 cells29 cells4 cells35 cells3 cells27 cells9 cells4 rfl rfl rfl rfl rfl rfl rfl rfl) hb hf
theorem len_items {H : Type} {enc : TypeId × Value → H} {W : World} {base : Nat} {spare : Nat → Bool} {held : Bool} {A : Option Addr} {len cap : Nat} {d : DataW H} {ps : List MemPlace} {ts : List TypeId} {ds : List (DataW H)} {j : Nat}
    (hsz : (DataW.weightsEach Tryz.prog ts ds).all (· ≤ reachBytes) = true) (ht : ts[j]? = some 26) (hd : ds[j]? = some d) (h : DataW.Trod enc Tryz.prog W base spare held 26 (.slice A len cap) d ps) : len ≤ 140737488355328 := by
  obtain ⟨fuel, hf⟩ := h
  rcases open_slice Tryz.underlying26 hf with ⟨h0, _⟩ | ⟨a, len', cap', m, n, D, Pl, hcs, _, _, _, _, hx, _⟩
  · simp only [Value.cells, List.cons.injEq, Value.slice.injEq, and_true] at h0
    omega
  · simp only [Value.cells, List.cons.injEq, Value.slice.injEq, and_true] at hcs
    obtain ⟨rfl, rfl, rfl⟩ := hcs
    simp only [Prod.mk.injEq] at hx
    rw [hx.1] at hd
    have := sized_slice hsz ht hd Tryz.underlying26
    rw [bytes37] at this
    simp only [List.length_map, List.length_range, reachBytes] at this
    omega
theorem lab {H : Type} {enc : TypeId × Value → H} {W : World} {base : Nat} {spare : Nat → Bool} {held : Bool} {v : Value} {d : DataW H} {p : List MemPlace} {r : Reach} {b0 : Nat} (hv : Value.okWide Tryz.prog W r b0 29 v) (h : DataW.Trod enc Tryz.prog W base spare held 29 v d p) : ∃ q : Label, v = .agg #[.int .i64 q.level, .int .u64 (q.cats.toNat : Int)] :=
  open_label Tryz.underlying29 cells29 Tryz.underlying3 Tryz.underlying27 cells3 cells27 rfl rfl hv h
theorem text_form {H : Type} {enc : TypeId × Value → H} {W : World} {base : Nat} {spare : Nat → Bool} {held : Bool} {v : Value} {d : DataW H} {p : List MemPlace} {r : Reach} {b0 : Nat} (hv : Value.okWide Tryz.prog W r b0 9 v) : ∃ s, v = .string s := okWide_string Tryz.underlying9 hv
abbrev cutS0 : OpenSpec := OpenSpec.ofChange Rows.topCutOutSpec
abbrev lab0 : Value := .agg #[.int .i64 0, .int .u64 0]
abbrev args0c : Array Value := #[.agg #[.int .i64 0, .int .i64 0, .int .i64 0, .int .i64 0, .int .i64 0, .int .i64 0, .string ByteArray.empty, .slice none 0 0, .slice none 0 0], .slice none 0 0, lab0, lab0, lab0, .string ByteArray.empty]
theorem laid_met (os : Os) (args : Array Value) : laidMetH Tryz.prog Rows.topCutOutRow.laid ((laidW os).forCall (fun _ _ => 0) ⟨#[], args, []⟩).memory :=
  laid_plain (laidMet_of_run' 8 (by kernel_rfl) (by kernel_rfl)) (by kernel_rfl) (by kernel_rfl) (by kernel_rfl)
theorem witness_row (os : Os) {H : Type} (enc : TypeId × Value → H) : cutS0.preRow enc Tryz.prog Tryz.f3 Rows.topCutOutRow.domain false Rows.topCutOutRow.laid ((laidW os).forCall (fun _ _ => 0) ⟨#[], args0c, []⟩).memory args0c := by
  have hw : (DataW.whole enc Tryz.prog ((laidW os).forCall (fun _ _ => 0) ⟨#[], args0c, []⟩).memory Tryz.f3.params.toList cutS0.vars false args0c.toList 8).map (fun x => (x.1, x.2.1)) =
      some ([.agg [.lit (.int .i64 0), .lit (.int .i64 0), .lit (.int .i64 0), .lit (.int .i64 0), .lit (.int .i64 0), .lit (.int .i64 0), .lit (.string []), .nil, .nil], .nil, .agg [.lit (.int .i64 0), .lit (.int .u64 0)], .agg [.lit (.int .i64 0), .lit (.int .u64 0)], .agg [.lit (.int .i64 0), .lit (.int .u64 0)], .lit (.string [])], []) := by kernel_rfl
  obtain ⟨⟨x1, x2, x3⟩, hx, hx1⟩ := Option.map_eq_some_iff.1 hw
  simp only [Prod.mk.injEq] at hx1
  obtain ⟨rfl, rfl⟩ := hx1
  exact OpenSpec.preRow_of_cond 8 hx (by kernel_rfl) (fun k hk => by cases hk) (by kernel_rfl) (laid_met os _)
theorem cut_lifted (os : Os) (started : os.Started) (H : Type) (enc : TypeId × Value → H) (F : Stop.Interp) :
    ReturnsInHanded {} Tryz.checked os 3 .any (cutS0.preRow enc Tryz.prog Tryz.f3 Rows.topCutOutRow.domain false Rows.topCutOutRow.laid) ((cutS0.at F).post enc Tryz.prog Tryz.f3 false true false false) := by
  refine returnsInHanded_of_row (C := Tryz.checked) (s := cutS0) own started (by kernel_rfl) Tryz.func3
    (witness_row_at (enc := enc) (C := Tryz.checked) false (laidW os) args0c rfl (by kernel_rfl) (by kernel_rfl) (by kernel_rfl) (witness_row os enc)) ?_
  intro W base args ds gs before hval0 hW _ _ hsz0 hL hsh _
  have hsz : (DataW.weightsEach Tryz.prog (Tryz.f3.params.toList ++ cutS0.bare.plain.varTypes Tryz.prog) (ds ++ gs)).all (· ≤ reachBytes) = true := hsz0
  clear hsz0
  have hval : ∀ (j : Nat) t v, Tryz.f3.params[j]? = some t → args[j]? = some v → Value.okWide Tryz.prog W .any base t v := hval0
  have hW' := hW
  obtain ⟨p, q, hA0, hV, rfl, hfz, hnd⟩ := hW
  have hA : DataW.TrodAll enc Tryz.prog W 0 (fun _ => true) true Tryz.f3.params.toList args.toList ds p := hA0
  rw [Tryz.params3] at hA hval hsz
  obtain ⟨v0, l1, d0, e1, p0, q1, hl0, rfl, rfl, h0, hA⟩ := trodAll_cons hA
  obtain ⟨v1, l2, d1, e2, p1, q2, rfl, rfl, rfl, h1, hA⟩ := trodAll_cons hA
  obtain ⟨v2, l3, d2, e3, p2, q3, rfl, rfl, rfl, h2, hA⟩ := trodAll_cons hA
  obtain ⟨v3, l4, d3, e4, p3, q4, rfl, rfl, rfl, h3, hA⟩ := trodAll_cons hA
  obtain ⟨v4, l5, d4, e5, p4, q5, rfl, rfl, rfl, h4, hA⟩ := trodAll_cons hA
  obtain ⟨v5, l6, d5, e6, p5, q6, rfl, rfl, rfl, h5, hA⟩ := trodAll_cons hA
  obtain ⟨rfl, rfl, rfl⟩ := trodAll_nil hA
  obtain rfl : args = #[v0, v1, v2, v3, v4, v5] := Array.toList_inj.1 hl0
  obtain ⟨rfl, rfl⟩ := trodVars_none hV
  obtain ⟨pv, rfl⟩ := open_policy Tryz.underlying25 (by kernel_rfl) Tryz.underlying3 Tryz.underlying3 Tryz.underlying3 Tryz.underlying3 Tryz.underlying3 Tryz.underlying3 Tryz.underlying9 Tryz.underlying22 Tryz.underlying23 (by kernel_rfl) rfl (hval 0 25 v0 rfl rfl) h0
  obtain ⟨a1, len1, cap1, rfl⟩ := okWide_slice Tryz.underlying26 (hval 1 26 v1 rfl rfl)
  obtain ⟨fl, rfl⟩ := lab (hval 2 29 v2 rfl rfl) h2
  obtain ⟨lo, rfl⟩ := lab (hval 3 29 v3 rfl rfl) h3
  obtain ⟨lq, rfl⟩ := lab (hval 4 29 v4 rfl rfl) h4
  obtain ⟨hid, rfl⟩ := okWide_string Tryz.underlying9 (hval 5 9 v5 rfl rfl)
  have lt : ∀ {t v d p}, DataW.Trod enc Tryz.prog W 0 (fun _ => true) true t v d p → ∀ x ∈ p, x.block < W.heap.size := fun h => by obtain ⟨m, hm⟩ := h; exact DataW.trod_lt m _ _ _ hm
  obtain ⟨xs, rfl, s1⟩ := open_items (len_items (j := 1) hsz rfl rfl h1) h1
  have ht : TabC (allC W) := tab_of_laid hL (by kernel_rfl)
  have hm : MaxC (allC W) := max_cell W hsh
  clear hA0 hval0
  refine Calls.mono (CutOut_c (p := pv) (has_all W) s1 ht hm) ?_
  rintro e W' ⟨v, rfl, C', rfl, ext⟩
  have bel := ext.below
  exact ⟨_, rfl, _, _, _, [], _, [], hW', trodAll_mk1 (shut_bool Tryz.underlying4 _),
    (trodAll_cons_mk (Below.trod laidOut (by kernel_rfl) (of_decide_eq_true (by kernel_rfl)) h0 bel (lt h0)) (trodAll_cons_mk (Below.trod laidOut (by kernel_rfl) (of_decide_eq_true (by kernel_rfl)) h1 bel (lt h1)) (trodAll_cons_mk (Below.trod laidOut (by kernel_rfl) (of_decide_eq_true (by kernel_rfl)) h2 bel (lt h2)) (trodAll_cons_mk (Below.trod laidOut (by kernel_rfl) (of_decide_eq_true (by kernel_rfl)) h3 bel (lt h3)) (trodAll_cons_mk (Below.trod laidOut (by kernel_rfl) (of_decide_eq_true (by kernel_rfl)) h4 bel (lt h4)) (trodAll_cons_mk (Below.trod laidOut (by kernel_rfl) (of_decide_eq_true (by kernel_rfl)) h5 bel (lt h5)) trodAll_mk0)))))), rfl, bel.frame _, fun h => by cases h⟩
theorem topCutOut_row : Rows.TopCutOutSaid :=
  OpenClaim.holds_of_cond 3 Tryz.f3 rfl rfl rfl rfl rfl rfl rfl ⟨rfl, rfl, rfl, rfl, rfl⟩ rfl rfl rfl rfl rfl (by kernel_rfl) Tryz.func3 (by kernel_rfl)
    (of_decide_eq_true (by kernel_rfl)) (by unfold Func.isWrapper; rw [if_neg (of_decide_eq_false (by kernel_rfl))]; exact ⟨rfl, rfl⟩)
    (fun os started H enc _ F0 => by rw [OpenClaim.pre_eq_preRow]; exact cut_lifted os started H enc F0)
theorem topCutOut_holds : Rows.TopCutOutCardSaid :=
  Claim7.holds_tied_plain_at .later [] [.data, .data, .pinned] true (true, "fbab42ed9cbd64ff1e3ef510c038b387e4f8e8d6e7932e384232cf1d98790816") true
    topCutOut_row (fun _ h => by cases h) (by kernel_rfl) (fun _ h => by cases h) topCutOut_row_tie rfl ⟨rfl, rfl⟩ (by kernel_rfl) rfl
    (fun f fn hf hfn => by
      obtain rfl : f = 3 := Option.some.inj ((show Tryz.prog.funcNamed "jalousie/jalousietop.TopCutOut" = some 3 by kernel_rfl).symm.trans hf) |>.symm
      obtain rfl : fn = Tryz.f3 := (Option.some.inj (Tryz.func3.symm.trans hfn)).symm
      exact ⟨by kernel_rfl, fun j t ht => by
        rw [Tryz.params3] at ht
        have hm : t ∈ [25, 26, 29, 29, 29, 9] := by simpa using Array.mem_of_getElem? ht
        have hall : ([25, 26, 29, 29, 29, 9].all fun u => !Tryz.prog.wantsStandIn u) = true := by kernel_rfl
        exact (show Tryz.prog.wantsStandIn t = false by simpa using List.all_eq_true.1 hall t hm)⟩)
    (by kernel_rfl)
end Go.Proofs.YtlofomkhiefbmaaGreatDoor
