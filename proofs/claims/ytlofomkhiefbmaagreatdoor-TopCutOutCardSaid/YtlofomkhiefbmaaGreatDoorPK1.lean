/- Part 2 of the proof; what it proves is said in the last part. -/
import Derived.Test.YtlofomkhiefbmaaGreatDoorPK0
import Derived.ChangeMaps5
import Derived.Deep.Draws
import Derived.KernelRfl
import Derived.Laws.BytesArg
import Derived.Laws.ResultCell
import Derived.Laws.Rows
import Derived.Lib.CountLaws
import Derived.Lib.IndexAny
import Derived.Lib.SmallJoins
import Derived.Lib.Split
import Derived.Lib.SplitLaws
import Derived.Lib.Strings
import Derived.Lib.TrailingZeros
import Derived.OpenShut
import Derived.RecoverIn
import Derived.Shelf.Spec.TrailingZeros
import Derived.Shelf.Strings.Cut
import Derived.Shelf.Strings.Prefix
import Derived.Shelf.Strings.Split
import Derived.Test.YtlofomkhiefbmaaGreatDoorProg
set_option linter.unusedVariables false
set_option linter.unusedSimpArgs false
set_option maxHeartbeats 4000000
namespace Go.Proofs.YtlofomkhiefbmaaGreatDoor
open Go.RowKit
def kLabel : Kd Label where
 sz := 2
 R _ x cs := cs = [.int .i64 x.level, .int .u64 (x.cats.toNat : Int)]
 len _ _ cs h := by rw [h]; rfl
 one _ _ cs h := by rw [h]; simp [Value.oneCell']
 mono _ _ _ _ _ h := h
def kItem : Kd Item where
 sz := 6
 R _ x cs := cs = [.int .i64 x.id, .int .i64 x.label.level, .int .u64 (x.label.cats.toNat : Int), .bool x.anchor, .string x.line.text, .bool x.line.bare]
 len _ _ cs h := by rw [h]; rfl
 one _ _ cs h := by rw [h]; simp [Value.oneCell']
 mono _ _ _ _ _ h := h
theorem kLabel_mk {C : Gh} {x : Label} : kLabel.R C x [.int .i64 x.level, .int .u64 (x.cats.toNat : Int)] := rfl
theorem kItem_mk {C : Gh} {x : Item} : kItem.R C x [.int .i64 x.id, .int .i64 x.label.level, .int .u64 (x.label.cats.toNat : Int), .bool x.anchor, .string x.line.text, .bool x.line.bare] := rfl
def encI (p : Nat × Item) : Array Value := #[.int .i64 (p.1 : Int), .agg #[.int .i64 p.2.id, .int .i64 p.2.label.level, .int .u64 (p.2.label.cats.toNat : Int), .bool p.2.anchor, .string p.2.line.text, .bool p.2.line.bare]]
theorem nl_index (s : ByteArray) : (0 ≤ Lib.indexByte s.data.toList 10) ↔ nlS s := by
 have h := Lib.contains_iff_indexByte s.data.toList 10
 unfold nlS
 rw [← List.contains_iff_mem, h, decide_eq_true_eq]
theorem SS.appO {C C1 C2 : Gh} {M : Nat → Prop} {WS w w2 : World} {A A' : Option Addr} {n c n' c' B e sz : Nat} (h : SS C M WS w) (m : App A n c w C1 A' n' c' w2 C2) (ow : Own B e sz w C1 A n c) (hM : ∀ k, M k → NotT e WS k) (hH : Has w2 C2) (hle : Gle C C2) : SS C M WS w2 :=
 ⟨fun b o v e => hH b o v (hle b o v e), Nat.le_trans h.size m.size, fun k hk hm => ((m.oth k (Nat.lt_of_lt_of_le hk h.size) (fun hl a ha hb => by
  obtain ⟨g', o, cs, h1, _, h3, _⟩ := ow.sp hl
  rw [h1] at ha
  cases ha
  simp only at hb
  subst hb
  exact hM _ hm cs.toList (fun _ _ => none) ⟨by rw [← h.blk _ hk hm]; simpa using h3, fun _ => rfl⟩)).1).trans (h.blk k hk hm)⟩
theorem SS.appMM {C C1 C2 : Gh} {M : Nat → Prop} {e : Nat} {WS w w2 : World} {B : Nat} (h : SS C M WS w) (hM : ∀ k, M k → NotT e WS k) (ex : Ext B w C1 w2 C2) (hH : Has w2 C2) (hle : Gle C C2) (ho : ∀ k, k < w.heap.size → (∀ cs, ¬ St w C1 k cs e) → w2.heap[k]? = w.heap[k]?) : SS C M WS w2 :=
 ⟨fun b o v hv => hH b o v (hle b o v hv), Nat.le_trans h.size ex.below.size, fun k hk hm => (ho k (Nat.lt_of_lt_of_le hk h.size) fun cs hs => hM k hm cs C1 ⟨(h.blk k hk hm).symm.trans hs.blk, hs.un⟩).trans (h.blk k hk hm)⟩
theorem MRow.ob {B e sz : Nat} {w w' : World} {C C' : Gh} {A : Option Addr} {c g : Nat} {rows : List (List Value)} {o : Obj} (h : MRow B e sz w C A c rows) (ho : Ob w C g o) (m : Mut g w C w' C') : MRow B e sz w' C' A c rows := by
 rcases h with h | ⟨g', spare, h1, h2, h3, h4⟩
 ·exact .inl h
 ·exact .inr ⟨g', spare, h1, h2, h3.other m (fun e => ho.ne_st h3 e.symm), h4⟩
section
variable {P : Program} {ρ : Operand → Value} {d : Option Tmp} {ty : TypeId} {pos : String} {af : Array Edge} {gd : Option (Nat × Bool)} {w : World} {C : Gh} {x : Operand} {t : TypeId}
theorem take_at {cs ds : List Value} {o j : Nat} {v : Value} (hd : (cs.drop o).take ds.length = ds) (hj : ds[j]? = some v) : cs[o + j]? = some v := by
 rw [← hd, List.getElem?_take] at hj
 split at hj
 ·rwa [List.getElem?_drop] at hj
 ·cases hj
theorem r_loadPX {g o : Nat} {cs ds : List Value} (ha : ∀ w, (isAgg t).run P w = .ok true w) (hs : ∀ w, (sizeOf t).run P w = .ok ds.length w) (hC : CellsG C (some ⟨g, 0, none⟩) 0 cs) (hd : (cs.drop o).take ds.length = ds) (hx : ρ x = .pointer (some ⟨g, o, none⟩)) (hH : Has w C) :
  (execOp ρ ⟨d, .load t x, ty, pos, af, gd⟩).run P w = .ok (.value (.agg ds.toArray)) w := by
 obtain ⟨g', o', hA, hseg⟩ := hC
 cases hA
 refine r_loadN ha hs hx fun j v hj => ?_
 rw [xAu]
 have := hseg _ v (take_at hd hj)
 simp only [Nat.zero_add] at this
 exact hH _ _ _ this
theorem r_loadGX {A : Option Addr} {k o : Nat} {cs ds : List Value} (ha : ∀ w, (isAgg t).run P w = .ok true w) (hs : ∀ w, (sizeOf t).run P w = .ok ds.length w) (hC : CellsG C A k cs) (hd : (cs.drop o).take ds.length = ds) (hx : ρ x = ptrAt A (k + o)) (hH : Has w C) :
  (execOp ρ ⟨d, .load t x, ty, pos, af, gd⟩).run P w = .ok (.value (.agg ds.toArray)) w := by
 obtain ⟨g, o', rfl, hseg⟩ := hC
 refine r_loadN ha hs (a := ⟨g, o' + (k + o), none⟩) (by rw [hx]; simp [ptrAt, xAu]) fun j v hj => ?_
 rw [xAu]
 have := hseg _ v (take_at hd hj)
 have e : o' + k + (o + j) = o' + (k + o) + j := by omega
 rw [e] at this
 exact hH _ _ _ this
end
def rowV (hidden : ByteArray) (p : Nat × Item) : List Value := [.string (lnX hidden p.2), .bool false]
def lineV (x : Line) : List Value := [.string x.text, .bool x.bare]
theorem rowR_lines (C : Gh) (xs : List Line) : RowR kLine C xs (xs.map lineV).flatten := by
 induction xs with
 | nil => exact .nil
 | cons x xs ih => exact .cons (cs := lineV x) rfl ih
theorem view_rows (hidden : ByteArray) (q : List (Nat × Item)) (p : Nat × Item) : q.map (rowV hidden) ++ [[Value.string (lnX hidden p.2), Value.bool (lastBare ((q ++ [p]).map (·.2)))]] = (viewS hidden ((q ++ [p]).map (·.2))).map lineV := by
 rw [List.map_append (f := fun x : Nat × Item => x.2), List.map_cons, List.map_nil, viewS_snoc, lastBare_snoc, List.map_append, List.map_map, List.map_map]
 rfl
section
variable {P : Program} {ρ : Operand → Value} {d : Option Tmp} {ty : TypeId} {pos : String} {af : Array Edge} {gd : Option (Nat × Bool)} {w : World} {t t' : TypeId} {x y : Operand} {a b : Int}
theorem r_convDig {n : Int} (hs : ∀ w, (underlying t).run P w = .ok (.int .i64) w) (hd : ∀ w, (underlying t').run P w = .ok (.int .u8) w) (hx : ρ x = .int .i64 (48 + n)) (h0 : 0 ≤ n) (h1 : n ≤ 9) :
  (execOp ρ ⟨d, .convert t t' x, ty, pos, af, gd⟩).run P w = .ok (.value (.int .u8 ((dig n).toNat : Int))) w := by
 refine r_convI hs hd hx ?_
 rw [dig_nat h0 h1]
 show (48 + n) % (2 ^ 8 : Int) = 48 + n
 omega
theorem r_quoP (hx : ρ x = .int .i64 a) (hy : ρ y = .int .i64 b) (h0 : 0 ≤ a) (hb : 0 < b) (h1 : a ≤ 9223372036854775807) : (execOp ρ ⟨d, .binOp .quo t x y t', ty, pos, af, gd⟩).run P w = .ok (.value (.int .i64 (a / b))) w := by
 have h2 : 0 ≤ a / b := Int.ediv_nonneg h0 (Int.le_of_lt hb)
 have h3 : a / b ≤ a := Int.ediv_le_self b h0
 refine r_quoE hx hy (by omega) ?_
 rw [Int.tdiv_eq_ediv_of_nonneg h0]
 exact wr64 (by omega) (by omega)
theorem r_remP (hx : ρ x = .int .i64 a) (hy : ρ y = .int .i64 b) (h0 : 0 ≤ a) (hb : 0 < b) (h1 : a ≤ 9223372036854775807) : (execOp ρ ⟨d, .binOp .rem t x y t', ty, pos, af, gd⟩).run P w = .ok (.value (.int .i64 (a % b))) w :=
 r_remE hx hy (by omega) (Int.tmod_eq_emod_of_nonneg h0)
end
theorem wrU (a : BitVec 64) : IntKind.u64.wrap (a.toNat : Int) = (a.toNat : Int) := by
 rw [IntKind.wrap_u64]; have := a.isLt; omega
theorem ofIntU (a : BitVec 64) : BitVec.ofInt 64 (a.toNat : Int) = a := by
 apply BitVec.eq_of_toNat_eq; simp
section
variable {P : Program} {ρ : Operand → Value} {d : Option Tmp} {ty : TypeId} {pos : String} {af : Array Edge} {gd : Option (Nat × Bool)} {w : World} {t t' : TypeId} {x y : Operand} {a b : BitVec 64}
theorem r_andU (hx : ρ x = .int .u64 (a.toNat : Int)) (hy : ρ y = .int .u64 (b.toNat : Int)) : (execOp ρ ⟨d, .binOp .and t x y t', ty, pos, af, gd⟩).run P w = .ok (.value (.int .u64 ((a &&& b).toNat : Int))) w := by
 have h : BitVec.ofInt IntKind.u64.bits (a.toNat : Int) &&& BitVec.ofInt IntKind.u64.bits (b.toNat : Int) = a &&& b := by
  show BitVec.ofInt 64 _ &&& BitVec.ofInt 64 _ = _; rw [ofIntU, ofIntU]
 have h2 := wrU (a &&& b)
 simp only [execOp, hx, hy, eqGuard, binOp, Op.intBits, h]
 simp only [Sem.run_bind, Sem.run_pure, Result.andThen_ok]
 exact congrArg (fun z => Result.ok (Next.value (Value.int .u64 z)) w) h2
theorem r_orU (hx : ρ x = .int .u64 (a.toNat : Int)) (hy : ρ y = .int .u64 (b.toNat : Int)) : (execOp ρ ⟨d, .binOp .or t x y t', ty, pos, af, gd⟩).run P w = .ok (.value (.int .u64 ((a ||| b).toNat : Int))) w := by
 have h : BitVec.ofInt IntKind.u64.bits (a.toNat : Int) ||| BitVec.ofInt IntKind.u64.bits (b.toNat : Int) = a ||| b := by
  show BitVec.ofInt 64 _ ||| BitVec.ofInt 64 _ = _; rw [ofIntU, ofIntU]
 have h2 := wrU (a ||| b)
 simp only [execOp, hx, hy, eqGuard, binOp, Op.intBits, h]
 simp only [Sem.run_bind, Sem.run_pure, Result.andThen_ok]
 exact congrArg (fun z => Result.ok (Next.value (Value.int .u64 z)) w) h2
theorem r_andNotU (hx : ρ x = .int .u64 (a.toNat : Int)) (hy : ρ y = .int .u64 (b.toNat : Int)) : (execOp ρ ⟨d, .binOp .andNot t x y t', ty, pos, af, gd⟩).run P w = .ok (.value (.int .u64 ((a &&& ~~~b).toNat : Int))) w := by
 have h : BitVec.ofInt IntKind.u64.bits (a.toNat : Int) &&& ~~~ BitVec.ofInt IntKind.u64.bits (b.toNat : Int) = a &&& ~~~b := by
  show BitVec.ofInt 64 _ &&& ~~~ BitVec.ofInt 64 _ = _; rw [ofIntU, ofIntU]
 have h2 := wrU (a &&& ~~~b)
 simp only [execOp, hx, hy, eqGuard, binOp, Op.intBits, h]
 simp only [Sem.run_bind, Sem.run_pure, Result.andThen_ok]
 exact congrArg (fun z => Result.ok (Next.value (Value.int .u64 z)) w) h2
theorem r_eqlU0 (hx : ρ x = .int .u64 (a.toNat : Int)) (hy : ρ y = .int .u64 0) : (execOp ρ ⟨d, .binOp .eql t x y t', ty, pos, af, gd⟩).run P w = .ok (.value (.bool (decide (a = 0#64)))) w := by
 have e : ((a.toNat : Int) = 0) ↔ a = 0#64 := by
  constructor
  ·intro h; apply BitVec.eq_of_toNat_eq; simp; omega
  ·rintro rfl; rfl
 rw [r_eql hx hy]
 simp only [e]
theorem r_neqU0 (hx : ρ x = .int .u64 (a.toNat : Int)) (hy : ρ y = .int .u64 0) : (execOp ρ ⟨d, .binOp .neq t x y t', ty, pos, af, gd⟩).run P w = .ok (.value (.bool (!decide (a = 0#64)))) w := by
 have e : ((a.toNat : Int) = 0) ↔ a = 0#64 := by
  constructor
  ·intro h; apply BitVec.eq_of_toNat_eq; simp; omega
  ·rintro rfl; rfl
 rw [r_neq hx hy]
 by_cases h : a = 0#64
 ·simp [h]
 ·have h' : ¬ ((a.toNat : Int) = 0) := fun k => h (e.1 k)
  rw [decide_eq_false h, decide_eq_true h']
  rfl
theorem r_shrU {k : Int} (hx : ρ x = .int .u64 (a.toNat : Int)) (hy : ρ y = .int .i64 k) (h0 : 0 ≤ k) (h1 : k ≤ 63) : (execOp ρ ⟨d, .binOp .shr t x y t', ty, pos, af, gd⟩).run P w = .ok (.value (.int .u64 ((a >>> k.toNat).toNat : Int))) w := by
 obtain ⟨n, rfl⟩ : ∃ n : Nat, k = n := ⟨k.toNat, by omega⟩
 have hn : min n 64 = n := by omega
 have hb : IntKind.u64.bits = 64 := rfl
 have h3 : ¬ ((n : Int) < 0) := by omega
 have h2 : ((a.toNat : Int).fdiv (2 ^ n)) = ((a >>> n).toNat : Int) := by
  rw [BitVec.toNat_ushiftRight, Nat.shiftRight_eq_div_pow]
  have hp : (2 : Int) ^ n = ((2 ^ n : Nat) : Int) := by simp
  rw [hp, Int.fdiv_eq_ediv_of_nonneg _ (Int.natCast_nonneg _)]
  rfl
 simp only [execOp, hx, hy, eqGuard, binOp, Op.shift, if_neg h3, hb, Int.toNat_natCast, hn, h2, Sem.run_bind, Sem.run_pure, Result.andThen_ok]
 simp
theorem r_rem2U (hx : ρ x = .int .u64 (a.toNat : Int)) (hy : ρ y = .int .u64 2) : (execOp ρ ⟨d, .binOp .rem t x y t', ty, pos, af, gd⟩).run P w = .ok (.value (.int .u64 (if a.getLsbD 0 then 1 else 0))) w := by
 refine r_remE hx hy (by decide) ?_
 have : a.getLsbD 0 = decide (a.toNat % 2 = 1) := by simp [BitVec.getLsbD, Nat.testBit_zero]
 rw [this, Int.tmod_eq_emod_of_nonneg (by omega)]
 by_cases h : a.toNat % 2 = 1 <;> simp [h] <;> omega
theorem r_decU (hx : ρ x = .int .u64 (a.toNat : Int)) (hy : ρ y = .int .u64 1) (h0 : a ≠ 0#64) : (execOp ρ ⟨d, .binOp .sub t x y t', ty, pos, af, gd⟩).run P w = .ok (.value (.int .u64 ((a - 1#64).toNat : Int))) w := by
 have hne : a.toNat ≠ 0 := fun h => h0 (BitVec.eq_of_toNat_eq (by simpa using h))
 have h2 : IntKind.u64.wrap ((a.toNat : Int) - 1) = ((a - 1#64).toNat : Int) := by
  have hlt := a.isLt
  rw [IntKind.wrap_u64, BitVec.toNat_sub]
  simp
  omega
 rw [r_sub hx hy, h2]
end
section
variable {P : Program} {fn : Func} {R : Value → World → Prop} {T : Fr} {w : World} {C : Gh}
theorem ret_cellA {p : Tmp} {ty t : TypeId} {g : Nat} {cs : List Value} {d : TypeDesc} (h : fn.results = #[.cell p ty]) (hp : T p = .pointer (some ⟨g, 0, none⟩)) (st : St w C g cs t)
  (hu : P.underlying ty = some d) (hd : (match d with | .struct _ | .array _ _ => true | _ => false) = true) (hi : (P.info? ty).map (·.size) = some cs.length) {e : Exit} (he : e = .ret ∨ e = .normal) (hR : R (.agg cs.toArray) w) : bodyF P fn R e T w := by
 have : ∀ tmps : Array Value, (∀ t, tmps.getD t undef = T t) → ∃ v, (results fn tmps).run P w = .ok v w ∧ R v w := fun tmps ht =>
  ⟨_, results_cell_row h tmps w g t cs.toArray (0, 0) d (by rw [ht p]; exact hp) st.blk hu hd (by simpa using hi), hR⟩
 rcases he with rfl | rfl <;> exact this
end
end Go.Proofs.YtlofomkhiefbmaaGreatDoor

namespace Go.Proofs.YtlofomkhiefbmaaGreatDoor
open Go.RowKit
section
variable {P : Program} {ρ : Operand → Value} {d : Option Tmp} {ty : TypeId} {pos : String} {af : Array Edge} {gd : Option (Nat × Bool)} {w : World} {C : Gh} {t t' e : TypeId} {x xl xh xm : Operand}
theorem r_sliceStrH {s : ByteArray} {h : Int} (hu : P.underlying t = some .string) (hx : ρ x = .string s) (hh : ρ xh = .int .i64 h) (h1 : 0 ≤ h) (h3 : h ≤ s.size) :
  (execOp ρ ⟨d, .slice t x none (some xh) none, ty, pos, af, gd⟩).run P w = .ok (.value (.string (s.extract 0 h.toNat))) w := by
 have e3 : max h 0 = h := by omega
 simp [e3, execOp, hx, hh, Instr.sliceAt, Instr.slice, underlying, hu, Instr.sliceBounds, Instr.sliceBound, asIntOf, h1, h3, Int.toNat_of_nonneg]
theorem r_sliceStrL {s : ByteArray} {l : Int} (hu : P.underlying t = some .string) (hx : ρ x = .string s) (hl : ρ xl = .int .i64 l) (h1 : 0 ≤ l) (h3 : l ≤ s.size) :
  (execOp ρ ⟨d, .slice t x (some xl) none none, ty, pos, af, gd⟩).run P w = .ok (.value (.string (s.extract l.toNat s.size))) w := by
 simp [execOp, hx, hl, Instr.sliceAt, Instr.slice, underlying, hu, Instr.sliceBounds, Instr.sliceBound, asIntOf, h1, h3, Int.toNat_of_nonneg]
def bS (s : ByteArray) : List Int := bt s.data.toList
theorem bS_len (s : ByteArray) : (bS s).length = s.size := by unfold bS bt; rw [List.length_map]; rfl
theorem bt_len (l : List UInt8) : (bt l).length = l.length := by simp [bt]
theorem bt_at {l : List UInt8} {i : Nat} {x : Int} (h : (bt l)[i]? = some x) : ∃ b, l[i]? = some b ∧ x = (b.toNat : Int) := by
 simp only [bt, List.getElem?_map, Option.map_eq_some_iff] at h
 obtain ⟨b, h1, h2⟩ := h
 exact ⟨b, h1, h2.symm⟩
theorem r_bytesStrA {a : Addr} {c n : Nat} {l : List UInt8} (hs : P.underlying t = some (.slice e)) (he : P.underlying e = some (.int .u8)) (hd : P.underlying t' = some .string) (h : Sl (kInt .u8) C (some a) c (bt l)) (hn : n = l.length) (hH : Has w C) (hx : ρ x = .slice (some a) n c) :
  (execOp ρ ⟨d, .convert t t' x, ty, pos, af, gd⟩).run P w = .ok (.value (.string ⟨l.toArray⟩)) w := by
 subst hn
 by_cases hp : 0 < l.length
 ·exact r_bytesStr hs he hd h rfl rfl hp hH (by rw [bt_len]; exact hx)
 ·obtain rfl : l = [] := by cases l <;> simp_all
  have hr := run_convert_bytes_back (P := P) w t t' e a c [] hs he hd (fun j hj => absurd hj (by simp))
  simp only [execOp, hx, Sem.run_bind, hr, Result.andThen_ok, Sem.run_pure]
end
section
variable {D : List Deferred} {P : Program} {N : Nat} {Q : Exit → Fr → World → Prop} {T : Fr} {w : World} {ops : Array Oper} {o : Oper} {C : Gh} {t t' e d : Nat} {x : Operand}
theorem FWl.strBytesS {s : ByteArray} {r : List Oper} (ho : o.op = .convert t t' x) (hd : o.dst = some d) (hw : wantedF ops T o = true) (hs : P.underlying t = some .string) (hd' : P.underlying t' = some (.slice e)) (he : P.underlying e = some (.int .u8)) (hx : ev T x = .string s) (hl : s.size ≤ 140737488355328) (hH : Has w C)
  (h : ∀ A c w' C', Sl (kInt .u8) C' A c (bS s) → Ext w.heap.size w C w' C' → FWl D P N ops Q r (upd T d (.slice A (bS s).length c)) w') : FWl D P N ops Q (o :: r) T w := by
 refine FWl.strBytes (l := s.data.toList) ho hd hw hs hd' he hx hl hH ?_
 intro A c w' C' h1 h2
 have := h A c w' C' h1 h2
 rwa [show (bS s).length = s.data.toList.length by simp [bS, bt]] at this
end
theorem FW.join {D : List Deferred} {P : Program} {N : Nat} {Q : Exit → Fr → World → Prop} {T : Fr} {w : World} {x y : Code} (I : Fr → World → Prop) (h1 : FW D P N x (thenF I Q) T w) (h2 : ∀ T w, I T w → FW D P N y Q T w) : FW D P N (x.seq y) Q T w :=
 FW.seq (h1.mono fun e T w h => by
  cases e with
  | normal => exact h2 T w h
  | _ => exact h)
end Go.Proofs.YtlofomkhiefbmaaGreatDoor

namespace Go.Proofs.YtlofomkhiefbmaaGreatDoor
theorem lpStep_len : ∀ (l : List Int) (p : ByteArray × ByteArray), p.2.size ≤ 1 → (l.foldl lpStep p).1.size ≤ p.1.size + 3 * l.length
 | [], p, _ => by simp
 | c :: l, p, h => by
  have h1 := lpStep_len l (lpStep p c) (Nat.le_refl 1)
  have h2 := decS_size c
  have h3 : (lpStep p c).1.size = p.1.size + (p.2.size + (decS c).size) := by simp only [lpStep, ByteArray.size_append]
  simp only [List.foldl_cons, List.length_cons]
  omega
theorem labelS_size (a : Label) : (labelS a).size ≤ 194 := by
 have h1 := lpStep_len (catsI a.cats 64) (decS a.level, ⟨#[58]⟩) (Nat.le_refl 1)
 have h2 := decS_size a.level
 have h3 := catsI_len a.cats 64
 unfold labelS
 simp only at h1
 omega
def lineS (s : ByteArray) : ByteArray := s ++ ⟨#[10]⟩
theorem lineS_size (s : ByteArray) : (lineS s).size = s.size + 1 := by simp only [lineS, ByteArray.size_append]; rfl
def eEnd : ByteArray := ⟨#[64, 64, 32, 101, 110, 100]⟩
def eBegin : ByteArray := ⟨#[64, 64, 32, 98, 101, 103, 105, 110, 32]⟩
def eAnchor : ByteArray := ⟨#[64, 64, 32, 97, 110, 99, 104, 111, 114]⟩
def eBare : ByteArray := ⟨#[64, 64, 32, 98, 97, 114, 101]⟩
def endsS : Nat → ByteArray
 | 0 => ByteArray.empty
 | n + 1 => endsS n ++ lineS eEnd
theorem endsS_size : ∀ n, (endsS n).size = 7 * n
 | 0 => rfl
 | n + 1 => by
  have h := endsS_size n
  have h2 : (lineS eEnd).size = 7 := by rw [lineS_size]; rfl
  simp only [endsS, ByteArray.size_append]
  omega
def staysL (a t : Label) (n : Nat) : Prop := belowL t a ∧ (t = a ∨ n ≤ 16)
instance (a t : Label) (n : Nat) : Decidable (staysL a t n) := inferInstanceAs (Decidable (_ ∧ _))
def keepL (a : Label) (op : List Label) : Nat → Nat
 | 0 => 0
 | n + 1 => if n = 0 then 1 else if ∀ t ∈ op[n]?, staysL a t (n + 1) then n + 1 else keepL a op n
theorem keepL_le (a : Label) (op : List Label) : ∀ n, keepL a op n ≤ n
 | 0 => Nat.le_refl _
 | n + 1 => by
  have := keepL_le a op n
  unfold keepL
  split
  ·omega
  ·split <;> omega
theorem keepL_pos (a : Label) (op : List Label) : ∀ n, 0 < n → 0 < keepL a op n
 | 0, h => h
 | n + 1, _ => by
  unfold keepL
  split
  ·omega
  ·have := keepL_pos a op n (by omega)
   split <;> omega
theorem keepL_one (a : Label) (op : List Label) {n : Nat} (h0 : 0 < n) (h1 : n ≤ 1) : keepL a op n = n := by
 obtain rfl : n = 1 := by omega
 rfl
theorem keepL_stay {a t : Label} {op : List Label} {n : Nat} (h : op[n - 1]? = some t) (hs : staysL a t n) : keepL a op n = n := by
 cases n with
 | zero => rfl
 | succ n =>
  unfold keepL
  split
  ·omega
  ·rw [if_pos]
   intro u hu
   rw [show n + 1 - 1 = n by omega] at h
   rw [h] at hu
   cases hu
   exact hs
theorem keepL_pop {a t : Label} {op : List Label} {n : Nat} (hn : 1 < n) (h : op[n - 1]? = some t) (hs : ¬ staysL a t n) : keepL a op n = keepL a op (n - 1) := by
 obtain ⟨m, rfl⟩ : ∃ m, n = m + 1 := ⟨n - 1, by omega⟩
 rw [show m + 1 - 1 = m by omega] at h ⊢
 conv => lhs; unfold keepL
 rw [if_neg (by omega), if_neg]
 intro hh
 exact hs (hh t (by rw [h]; rfl))
abbrev Pr := List Label × ByteArray
def topS (p : Pr) (a : Label) : Pr := if p.1[p.1.length - 1]? = some a then p else (p.1 ++ [a], p.2 ++ lineS (eBegin ++ labelS a))
def cutS (p : Pr) (n : Nat) : Pr := (p.1.take n, p.2 ++ endsS (p.1.length - n))
def regS (p : Pr) (a : Label) : Pr := topS (cutS p (keepL a p.1 p.1.length)) a
def signed (s : ByteArray) : Bool := Lib.hasPrefix s.data.toList [64, 64]
def txtS (x : Item) : ByteArray := if x.anchor then eAnchor else if signed x.line.text then ⟨#[64]⟩ ++ x.line.text else x.line.text
def bodyS (s : ByteArray) (x : Item) : ByteArray := if x.line.bare then s ++ lineS (txtS x) ++ lineS eBare else s ++ lineS (txtS x)
def itemS (p : Pr) (x : Item) : Pr := ((regS p x.label).1, bodyS (regS p x.label).2 x)
def itemsS (floor : Label) (l : List Item) : Pr := l.foldl itemS ([floor], ByteArray.empty)
def printS (floor : Label) (l : List Item) : ByteArray := (cutS (itemsS floor l) 1).2
theorem topS_same {p : Pr} {a y : Label} (h : p.1[p.1.length - 1]? = some y) (hy : y = a) : topS p a = p := if_pos (hy ▸ h)
theorem topS_new {p : Pr} {a y : Label} (h : p.1[p.1.length - 1]? = some y) (hy : ¬ y = a) : topS p a = (p.1 ++ [a], p.2 ++ lineS (eBegin ++ labelS a)) := if_neg fun k => hy (Option.some.inj (h.symm.trans k))
theorem endsS_more {op : List Label} {n : Nat} (h0 : 0 < n) (h1 : n ≤ op.length) (out : ByteArray) : (out ++ endsS (op.length - n)) ++ lineS eEnd = out ++ endsS (op.length - (n - 1)) := by
 rw [show op.length - (n - 1) = (op.length - n) + 1 by omega, endsS, ByteArray.append_assoc]
theorem take_more {op : List Label} {n : Nat} (h1 : n ≤ op.length) : (op.take n).take ((op.take n).length - 1) = op.take (n - 1) := by
 rw [List.take_take, List.length_take]
 congr 1
 omega
theorem txtS_a {x : Item} (h : x.anchor = true) : txtS x = eAnchor := if_pos h
theorem txtS_s {x : Item} (h : x.anchor = false) (h2 : signed x.line.text = true) : txtS x = ⟨#[64]⟩ ++ x.line.text := by unfold txtS; rw [h, h2]; rfl
theorem txtS_p {x : Item} (h : x.anchor = false) (h2 : signed x.line.text = false) : txtS x = x.line.text := by unfold txtS; rw [h, h2]; rfl
theorem bodyS_b {s : ByteArray} {x : Item} (h : x.line.bare = true) : bodyS s x = (s ++ lineS (txtS x)) ++ lineS eBare := if_pos h
theorem bodyS_n {s : ByteArray} {x : Item} (h : x.line.bare = false) : bodyS s x = s ++ lineS (txtS x) := if_neg (by simp [h])
theorem cutS_size {p : Pr} {n : Nat} (h : n ≤ p.1.length) : (cutS p n).2.size + 7 * (cutS p n).1.length = p.2.size + 7 * p.1.length := by
 simp only [cutS, ByteArray.size_append, endsS_size, List.length_take]
 omega
theorem topS_size (p : Pr) (a : Label) : (topS p a).2.size + 7 * (topS p a).1.length ≤ p.2.size + 7 * p.1.length + 211 := by
 unfold topS
 split
 ·omega
 ·have h1 := labelS_size a
  have h2 : eBegin.size = 9 := rfl
  simp only [ByteArray.size_append, lineS_size, List.length_append, List.length_cons, List.length_nil]
  omega
theorem topS_pos (p : Pr) (a : Label) (h : 0 < p.1.length) : 0 < (topS p a).1.length := by
 unfold topS
 split
 ·exact h
 ·simp
theorem cutS_pos {p : Pr} {a : Label} (h : 0 < p.1.length) : 0 < (cutS p (keepL a p.1 p.1.length)).1.length := by
 have h1 := keepL_le a p.1 p.1.length
 have h2 := keepL_pos a p.1 p.1.length h
 simp only [cutS, List.length_take]
 omega
theorem regS_pos {p : Pr} {a : Label} (h : 0 < p.1.length) : 0 < (regS p a).1.length := topS_pos _ _ (cutS_pos h)
theorem regS_size (p : Pr) (a : Label) : (regS p a).2.size + 7 * (regS p a).1.length ≤ p.2.size + 7 * p.1.length + 211 := by
 have h1 := topS_size (cutS p (keepL a p.1 p.1.length)) a
 rw [cutS_size (keepL_le _ _ _)] at h1
 exact h1
theorem txtS_size {x : Item} (h : x.line.text.size ≤ 200) : (txtS x).size ≤ 201 := by
 unfold txtS
 split
 ·show 9 ≤ 201; omega
 ·split
  ·have : (⟨#[64]⟩ : ByteArray).size = 1 := rfl
   simp only [ByteArray.size_append]
   omega
  ·omega
theorem bodyS_size (s : ByteArray) {x : Item} (h : x.line.text.size ≤ 200) : (bodyS s x).size ≤ s.size + 210 := by
 have h1 := txtS_size h
 have h2 : eBare.size = 7 := rfl
 unfold bodyS
 split <;> simp only [ByteArray.size_append, lineS_size] <;> omega
theorem itemS_size (p : Pr) {x : Item} (h : x.line.text.size ≤ 200) : (itemS p x).2.size + 7 * (itemS p x).1.length ≤ p.2.size + 7 * p.1.length + 421 := by
 have h1 := regS_size p x.label
 have h2 := bodyS_size (regS p x.label).2 h
 simp only [itemS]
 omega
theorem itemsS_snoc {floor : Label} {l : List Item} {k : Nat} {x : Item} (h : l[k]? = some x) : itemsS floor (l.take (k + 1)) = itemS (itemsS floor (l.take k)) x := by
 unfold itemsS
 rw [xAz h, List.foldl_append]
 rfl
end Go.Proofs.YtlofomkhiefbmaaGreatDoor

namespace Go.Proofs.YtlofomkhiefbmaaGreatDoor
open Go.RowKit
theorem bRows_app (s t : ByteArray) : bRows (s ++ t) = bRows s ++ bRows t := by
 have : (s ++ t).data.toList = s.data.toList ++ t.data.toList := by rw [ByteArray.data_append, Array.toList_append]
 simp only [bRows, this, List.map_append]
theorem freeze_other (w : World) {g n b : Nat} (h : b ≠ g) : (w.freeze ⟨g, 0, none⟩ n).heap[b]? = w.heap[b]? := by
 unfold World.freeze
 split
 ·rfl
 ·simp only [Array.getElem?_modify]
  rw [if_neg (fun e => h e.symm)]
theorem freeze_size (w : World) {g n : Nat} : (w.freeze ⟨g, 0, none⟩ n).heap.size = w.heap.size := by
 unfold World.freeze
 split <;> simp
theorem SS.freeze {C : Gh} {M : Nat → Prop} {WS w : World} {g n : Nat} (h : SS C M WS w) (hu : ∀ o, C g o = none) (hM : ∀ k, M k → k ≠ g) : SS C M WS (w.freeze ⟨g, 0, none⟩ n) :=
 ⟨fun b o v e => (World.cell?_of_block (w := w) (freeze_other w (fun hb => by subst hb; rw [hu o] at e; cases e))).trans (h.has b o v e), by rw [freeze_size]; exact h.size, fun k hk hm => (freeze_other w (hM k hm)).trans (h.blk k hk hm)⟩
section
variable {P : Program} {ρ : Operand → Value} {d : Option Tmp} {ty : TypeId} {pos : String} {af : Array Edge} {gd : Option (Nat × Bool)} {w : World} {C : Gh} {t t' e : TypeId} {x xn xh xm : Operand}
theorem r_sliceData {a : Addr} {n c : Nat} {ts : Array TypeId} (hx : ρ x = .slice (some a) n c) (hc : c ≠ 0) :
  (execOp ρ ⟨d, .call { callee := .builtin .unsafeSliceData, args := #[x], argTypes := ts }, ty, pos, af, gd⟩).run P w = .ok (.value (.pointer (some a))) w := by
 have h := Lib.run_unsafeSliceData_row (P := P) (w := w) ts ty a n c hc
 simp [execOp, resolve, invoke, builtin, hx, h]
theorem r_unsafeStr {pt it g cells n : Nat} {s : ByteArray} (hp : P.underlying pt = some (.pointer e)) (hc : P.cellsOf e = 1) (hsh : w.shape? g = some (e, cells)) (h0 : s.size ≠ 0) (hn : n = s.size) (hn' : n ≤ cells) (h63 : n ≤ 9223372036854775807)
  (hcell : ∀ j x, s.data.toList[j]? = some x → w.cell? ((⟨g, 0, none⟩ : Addr).add j) = some (.int .u8 x.toNat)) (hx : ρ x = .pointer (some ⟨g, 0, none⟩)) (hxn : ρ xn = .int .i64 (n : Int)) :
  (execOp ρ ⟨d, .call { callee := .builtin .unsafeString, args := #[x, xn], argTypes := #[pt, it] }, ty, pos, af, gd⟩).run P w = .ok (.value (.string s)) (w.freeze ⟨g, 0, none⟩ n) := by
 subst hn
 have hl : s.data.toList.length = s.size := rfl
 have h := Lib.run_unsafeString_row (P := P) w pt it ty e hp hc g cells hsh s.data.toList (fun h => h0 (by rw [← hl, h]; rfl)) (by omega) (by omega) hcell
 rw [hl] at h
 simp [execOp, resolve, invoke, builtin, hx, hxn, h]
theorem r_sliceData0 {n c : Nat} {ts : Array TypeId} (hx : ρ x = .slice none n c) :
  (execOp ρ ⟨d, .call { callee := .builtin .unsafeSliceData, args := #[x], argTypes := ts }, ty, pos, af, gd⟩).run P w = .ok (.value (.pointer none)) w := by
 have h := Lib.run_unsafeSliceData_nil (P := P) (w := w) ts ty n c
 simp [execOp, resolve, invoke, builtin, hx, h]
theorem r_unsafeStr0 {pt it : Nat} {q : Option Addr} (hx : ρ x = .pointer q) (hxn : ρ xn = .int .i64 0) :
  (execOp ρ ⟨d, .call { callee := .builtin .unsafeString, args := #[x, xn], argTypes := #[pt, it] }, ty, pos, af, gd⟩).run P w = .ok (.value (.string .empty)) w := by
 have h := Lib.run_unsafeString_none (P := P) w pt it ty q
 simp [execOp, resolve, invoke, builtin, hx, hxn, h]
theorem r_sliceHMT {α : Type} {xs : List α} {A : Option Addr} {n c sz : Nat} {h m : Int} (hu : P.underlying t = some (.slice e)) (hs : ∀ w, (sizeOf e).run P w = .ok sz w) (hx : ρ x = .slice A xs.length c) (hh : ρ xh = .int .i64 h) (hm : ρ xm = .int .i64 m) (h1 : h = n) (h2 : m = n) (h3 : n ≤ xs.length) (h4 : xs.length ≤ c) :
  (execOp ρ ⟨d, .slice t x none (some xh) (some xm), ty, pos, af, gd⟩).run P w = .ok (.value (.slice A (xs.take n).length (xs.take n).length)) w := by
 subst h1 h2
 rw [r_sliceHM hu hs hx hh hm (by omega) (by omega) (by omega)]
 have : (xs.take n).length = n := by rw [List.length_take]; omega
 simp [this]
end
theorem St.shape {w : World} {C : Gh} {g t : Nat} {cs : List Value} (h : St w C g cs t) : w.shape? g = some (t, cs.length) := by
 simp [World.shape?, h.blk]
theorem bytes_at {w : World} {C : Gh} {g t : Nat} {s : ByteArray} {l : List Value} (h : St w C g ((bRows s).flatten ++ l) t) : ∀ j x, s.data.toList[j]? = some x → w.cell? ((⟨g, 0, none⟩ : Addr).add j) = some (.int .u8 x.toNat) := by
 intro j x hx
 rw [xAu, Nat.zero_add]
 refine h.cell ?_
 have hb : (bRows s).flatten[j]? = some (.int .u8 (x.toNat : Int)) := by
  rw [bRows_flat]
  simp only [Lib.strCells, List.getElem?_map, hx, Option.map_some]
 rw [List.getElem?_append_left (List.getElem?_eq_some_iff.1 hb).1]
 exact hb
def Wr (tw tu tl B g : Nat) (op : List Label) (out : ByteArray) (w : World) (C : Gh) : Prop :=
 ∃ (p : Value) (A : Option Addr) (c : Nat) (Ao : Option Addr) (co : Nat), B ≤ g ∧ (p = .pointer none ∨ p = .pointer (some ⟨g, 0, none⟩)) ∧ St w C g [p, .slice A (bRows out).length c, .slice Ao op.length co] tw ∧
  MRow B tu 1 w C A c (bRows out) ∧ Sl kLabel C Ao co op ∧ Own B tl 2 w C Ao op.length co ∧ (out.size = 0 → A = none ∧ c = 0)
theorem Wr.call {tw tu tl B g : Nat} {op : List Label} {out : ByteArray} {w w' : World} {C C' : Gh} (h : Wr tw tu tl B g op out w C) (e : Ext w.heap.size w C w' C') : Wr tw tu tl B g op out w' C' :=
 let ⟨p, A, c, Ao, co, h1, h2, h3, h4, h5, h6, h7⟩ := h
 ⟨p, A, c, Ao, co, h1, h2, h3.call e, h4.call e, h5.mono e.le, h6.call e, h7⟩
theorem Wr.lt {tw tu tl B g : Nat} {op : List Label} {out : ByteArray} {w : World} {C : Gh} (h : Wr tw tu tl B g op out w C) : B ≤ g ∧ g < w.heap.size :=
 let ⟨_, _, _, _, _, h1, _, h3, _⟩ := h
 ⟨h1, h3.lt⟩
theorem top_take {op : List Label} {n i : Nat} {x : Label} (h : (op.take n)[i]? = some x) (hi : i = (op.take n).length - 1) (hn : n ≤ op.length) : op[n - 1]? = some x := by
 have hl : (op.take n).length = n := by rw [List.length_take]; omega
 have hlt : i < (op.take n).length := (List.getElem?_eq_some_iff.1 h).1
 rw [hi, hl] at h
 rw [List.getElem?_take] at h
 split at h
 ·exact h
 ·cases h
end Go.Proofs.YtlofomkhiefbmaaGreatDoor

namespace Go.Proofs.YtlofomkhiefbmaaGreatDoor
open Go.RowKit
section
variable {P : Program} {ρ : Operand → Value} {d : Option Tmp} {ty : TypeId} {pos : String} {af : Array Edge} {gd : Option (Nat × Bool)} {w : World} {t t' : TypeId} {x y : Operand}
theorem r_shlU1 {k : Int} (hx : ρ x = .int .u64 1) (hy : ρ y = .int .i64 k) (h0 : 0 ≤ k) (h1 : k ≤ 63) : (execOp ρ ⟨d, .binOp .shl t x y t', ty, pos, af, gd⟩).run P w = .ok (.value (.int .u64 ((1#64 <<< k.toNat).toNat : Int))) w := by
 obtain ⟨n, rfl⟩ : ∃ n : Nat, k = n := ⟨k.toNat, by omega⟩
 have hn : min n 64 = n := by omega
 have hb : IntKind.u64.bits = 64 := rfl
 have h3 : ¬ ((n : Int) < 0) := by omega
 have h2 : IntKind.u64.wrap (1 * 2 ^ n) = ((1#64 <<< n).toNat : Int) := by
  rw [IntKind.wrap_u64, BitVec.toNat_shiftLeft, Nat.shiftLeft_eq]
  simp
 simp only [execOp, hx, hy, eqGuard, binOp, Op.shift, if_neg h3, hb, Int.toNat_natCast, hn, h2, Sem.run_bind, Sem.run_pure, Result.andThen_ok]
 simp
theorem r_subB {a b : Int} (hx : ρ x = .int .u8 a) (hy : ρ y = .int .u8 b) (h0 : 0 ≤ a - b) (h1 : a - b ≤ 255) : (execOp ρ ⟨d, .binOp .sub t x y t', ty, pos, af, gd⟩).run P w = .ok (.value (.int .u8 (a - b))) w := by
 have : IntKind.u8.wrap (a - b) = a - b := by
  have h := IntKind.wrap_u8 (a - b)
  omega
 rw [r_sub hx hy, this]
theorem r_eqlStrNe {s s' : ByteArray} (hx : ρ x = .string s) (hy : ρ y = .string s') (h : s.size ≠ s'.size) : (execOp ρ ⟨d, .binOp .eql t x y t', ty, pos, af, gd⟩).run P w = .ok (.value (.bool false)) w := by
 rw [r_eqlStr hx hy, decide_eq_false (fun e => h (congrArg _ e))]
theorem r_neqStrNe {s s' : ByteArray} (hx : ρ x = .string s) (hy : ρ y = .string s') (h : s.size ≠ s'.size) : (execOp ρ ⟨d, .binOp .neq t x y t', ty, pos, af, gd⟩).run P w = .ok (.value (.bool true)) w := by
 rw [r_neqStr hx hy, decide_eq_false (fun e => h (congrArg _ e))]
 rfl
end
section
variable {P : Program} {fn : Func} {R : Value → World → Prop} {T : Fr} {w : World} {C : Gh}
theorem ret_cellA_tmp {p u : Tmp} {ty t : TypeId} {g : Nat} {cs : List Value} {v : Value} {d : TypeDesc} (h : fn.results = #[.cell p ty, .tmp u]) (hp : T p = .pointer (some ⟨g, 0, none⟩)) (hv : T u = v) (st : St w C g cs t)
  (hu : P.underlying ty = some d) (hd : (match d with | .struct _ | .array _ _ => true | _ => false) = true) (hi : (P.info? ty).map (·.size) = some cs.length) {e : Exit} (he : e = .ret ∨ e = .normal) (hR : R (.tuple #[.agg cs.toArray, v]) w) : bodyF P fn R e T w := by
 have : ∀ tmps : Array Value, (∀ t, tmps.getD t undef = T t) → ∃ v, (results fn tmps).run P w = .ok v w ∧ R v w := fun tmps ht =>
  ⟨_, by
   rw [results_cell_tmp h, ht p, hp, ht u, hv]
   simp only [asAddr, Sem.run_pure, Result.andThen_ok, run_loadVar_row w g t ty cs.toArray (0, 0) d st.blk hu hd (by simpa using hi)], hR⟩
 rcases he with rfl | rfl <;> exact this
end
theorem Ext.drewN {w : World} {C : Gh} (h : Has w C) (n : Nat) : Ext w.heap.size w C (w.drewN n) C :=
 ⟨⟨rfl, rfl, rfl, Nat.le_refl _, fun _ _ => rfl⟩, h, Gle.refl _, fun _ _ _ => rfl⟩
theorem rowR_strs (C : Gh) : ∀ l : List ByteArray, RowR kStr C l (l.map Value.string)
 | [] => .nil
 | _ :: l => .cons (cs := [_]) rfl (rowR_strs C l)
theorem new_strs {w : World} {C : Gh} (hH : Has w C) (l : List ByteArray) (t : TypeId) (hl : l.length ≤ 140737488355328) :
  ∃ C', Sl kStr C' (some ⟨w.heap.size, 0, none⟩) l.length l ∧ Ext w.heap.size w C (w.alloc (.cells (l.map Value.string).toArray t)) C' := by
 have hle : Gle C (commit C w.heap.size 0 (l.map Value.string)) := commit_le fun k _ _ => hH.none k (Nat.le_refl _)
 refine ⟨_, Sl.of_row (rowR_strs _ l) (commit_seg _ _ _ _) (Nat.le_refl _) hl, ⟨(Below.refl _ w).alloc (Nat.le_refl _) _, commit_has (Ext.alloc (Ext.refl (B := w.heap.size) hH) (Nat.le_refl _) _).has fun i v hi => ?_, hle, fun b o hb => commit_ne _ _ _ (by omega) _⟩⟩
 rw [Nat.zero_add]
 have hb : (w.alloc (.cells (l.map Value.string).toArray t)).heap[w.heap.size]? = some (.cells (l.map Value.string).toArray t (0, 0)) := heap_alloc_new w _
 simp only [World.cell?, hb]
 simpa using hi
def MaxC (C : Gh) : Prop := ∃ m : Int, C 0 0 = some (.int .i64 m)
theorem MaxC.mono {C C' : Gh} (h : MaxC C) (hle : Gle C C') : MaxC C' := let ⟨m, h⟩ := h; ⟨m, hle _ _ _ h⟩
end Go.Proofs.YtlofomkhiefbmaaGreatDoor

namespace Go.Proofs.YtlofomkhiefbmaaGreatDoor
theorem ba_ext {s t : ByteArray} (h : s.data.toList = t.data.toList) : s = t := by
 cases s; cases t
 congr 1
 exact Array.toList_inj.1 h
theorem app_list (s t : ByteArray) : (s ++ t).data.toList = s.data.toList ++ t.data.toList := by rw [ByteArray.data_append, Array.toList_append]
def commaS : List Int → ByteArray
 | [] => ByteArray.empty
 | c :: r => (⟨#[44]⟩ ++ decS c) ++ commaS r
def restS : List Int → ByteArray
 | [] => ByteArray.empty
 | c :: r => decS c ++ commaS r
theorem fold_comma : ∀ (l : List Int) (o : ByteArray), (l.foldl lpStep (o, ⟨#[44]⟩)).1 = o ++ commaS l
 | [], o => (ByteArray.append_empty).symm
 | c :: l, o => by
  rw [List.foldl_cons]
  show (l.foldl lpStep (o ++ (⟨#[44]⟩ ++ decS c), ⟨#[44]⟩)).1 = _
  rw [fold_comma l, ByteArray.append_assoc]
  rfl
theorem labelS_nil {a : Label} (h : catsI a.cats 64 = []) : labelS a = decS a.level := by unfold labelS; rw [h]; rfl
theorem labelS_cons {a : Label} {c : Int} {r : List Int} (h : catsI a.cats 64 = c :: r) : labelS a = decS a.level ++ (⟨#[58]⟩ ++ restS (c :: r)) := by
 unfold labelS
 rw [h, List.foldl_cons]
 show (r.foldl lpStep (decS a.level ++ (⟨#[58]⟩ ++ decS c), ⟨#[44]⟩)).1 = _
 rw [fold_comma, ByteArray.append_assoc, ByteArray.append_assoc]
 rfl
theorem map_at {l : List Int} {k : Nat} {x : ByteArray} (h : (l.map decS)[k]? = some x) : ∃ d, l[k]? = some d ∧ x = decS d := by
 rw [List.getElem?_map, Option.map_eq_some_iff] at h
 obtain ⟨d, h1, h2⟩ := h
 exact ⟨d, h1, h2.symm⟩
theorem dig_range {n : Int} (h0 : 0 ≤ n) (h1 : n ≤ 9) : 48 ≤ (dig n).toNat ∧ (dig n).toNat ≤ 57 := by
 have := dig_nat h0 h1
 omega
theorem decS_mem {n : Int} (h0 : 0 ≤ n) (h1 : n < 100) {b : UInt8} (h : b ∈ (decS n).data.toList) : 48 ≤ b.toNat ∧ b.toNat ≤ 57 := by
 unfold decS at h
 split at h
 ·simp at h
  subst h
  exact dig_range (by omega) (by omega)
 ·simp at h
  rcases h with rfl | rfl <;> exact dig_range (by omega) (by omega)
theorem decS_not {n : Int} (h0 : 0 ≤ n) (h1 : n < 100) {b : UInt8} (hb : b.toNat < 48 ∨ 57 < b.toNat) : b ∉ (decS n).data.toList := fun h => by
 have := decS_mem h0 h1 h
 omega
theorem prefix_one {c b : UInt8} {l : List UInt8} : [c].isPrefixOf (b :: l) = (c == b) := by simp [List.isPrefixOf]
theorem index_miss {c : UInt8} : ∀ {p : List UInt8}, c ∉ p → Lib.index p [c] = -1
 | [], _ => rfl
 | b :: p, h => by
  have h1 := index_miss (p := p) (fun e => h (List.mem_cons_of_mem _ e))
  have h2 : (c == b) = false := by simpa using fun e : c = b => h (e ▸ List.mem_cons_self ..)
  rw [Lib.index, prefix_one, h2, h1]
  rfl
theorem index_hit {c : UInt8} {r : List UInt8} : ∀ {p : List UInt8}, c ∉ p → Lib.index (p ++ c :: r) [c] = (p.length : Int)
 | [], _ => by
  rw [List.nil_append, Lib.index, prefix_one]
  simp
 | b :: p, h => by
  have h1 := index_hit (r := r) (p := p) (fun e => h (List.mem_cons_of_mem _ e))
  have h2 : (c == b) = false := by simpa using fun e : c = b => h (e ▸ List.mem_cons_self ..)
  rw [List.cons_append, Lib.index, prefix_one, h2, h1]
  have h3 : ((p.length : Int) == -1) = false := by simp
  simp only [Bool.false_eq_true, if_false, h3, List.length_cons]
  omega
theorem cut_miss {c : UInt8} {p : List UInt8} (h : c ∉ p) : Lib.cut p [c] = (p, [], false) := by
 unfold Lib.cut
 rw [index_miss h]
 rfl
theorem cut_hit {c : UInt8} {p r : List UInt8} (h : c ∉ p) : Lib.cut (p ++ c :: r) [c] = (p, r, true) := by
 unfold Lib.cut
 rw [index_hit h, if_pos (by omega)]
 simp
theorem indexB_miss {s : ByteArray} {c : UInt8} (h : c ∉ s.data.toList) : Lib.indexB s ⟨#[c]⟩ = -1 := by
 show Lib.index s.data.toList [c] = -1
 exact index_miss h
theorem indexB_hit {s r : ByteArray} {c : UInt8} (h : c ∉ s.data.toList) : Lib.indexB (s ++ (⟨#[c]⟩ ++ r)) ⟨#[c]⟩ = (s.size : Int) := by
 show Lib.index (s ++ (⟨#[c]⟩ ++ r)).data.toList [c] = _
 rw [app_list, app_list]
 exact index_hit h
theorem extract_left {s r : ByteArray} : (s ++ r).extract 0 (s.size + 0) = s := by
 refine ba_ext ?_
 have hl : s.data.toList.length = s.size := rfl
 rw [ByteArray.data_extract, Array.toList_extract, app_list, List.extract_eq_take_drop, List.drop_zero, Nat.add_zero, Nat.sub_zero, ← hl, List.take_left]
theorem extract_right {s r : ByteArray} {c : UInt8} : (s ++ (⟨#[c]⟩ ++ r)).extract (s.size + (⟨#[c]⟩ : ByteArray).size) (s ++ (⟨#[c]⟩ ++ r)).size = r := by
 refine ba_ext ?_
 have hs : (⟨#[c]⟩ : ByteArray).size = 1 := rfl
 have e : (s ++ (⟨#[c]⟩ ++ r)).data.toList = (s.data.toList ++ [c]) ++ r.data.toList := by rw [app_list, app_list, List.append_assoc]
 have hl : (s.data.toList ++ [c]).length = s.size + 1 := by rw [List.length_append]; rfl
 have hz : (s ++ (⟨#[c]⟩ ++ r)).size = s.size + 1 + r.size := by simp only [ByteArray.size_append, hs]; omega
 rw [ByteArray.data_extract, Array.toList_extract, e, List.extract_eq_take_drop, hs, hz, ← hl, List.drop_left]
 rw [List.take_of_length_le]
 have : r.data.toList.length = r.size := rfl
 omega
theorem comma_split : ∀ (r : List Int) (c : Int), (∀ x ∈ c :: r, 0 ≤ x ∧ x < 100) → Lib.countB (restS (c :: r)) ⟨#[44]⟩ = r.length ∧ Lib.splitB ⟨#[44]⟩ 0 r.length (restS (c :: r)) = (c :: r).map decS
 | [], c, h => by
  have hc := h c (List.mem_cons_self ..)
  have e : restS [c] = decS c := ByteArray.append_empty
  have hm := indexB_miss (decS_not hc.1 hc.2 (b := 44) (.inl (by decide)))
  rw [e]
  exact ⟨Lib.countB_miss _ _ hm, rfl⟩
 | x :: r, c, h => by
  have hc := h c (List.mem_cons_self ..)
  obtain ⟨h1, h2⟩ := comma_split r x (fun y hy => h y (List.mem_cons_of_mem _ hy))
  have e : restS (c :: x :: r) = decS c ++ (⟨#[44]⟩ ++ restS (x :: r)) := by
   show decS c ++ ((⟨#[44]⟩ ++ decS x) ++ commaS r) = _
   rw [ByteArray.append_assoc]
   rfl
  have hh := indexB_hit (r := restS (x :: r)) (decS_not hc.1 hc.2 (b := 44) (.inl (by decide)))
  rw [e]
  refine ⟨?_, ?_⟩
  ·rw [Lib.countB_hit _ _ _ (by decide) hh, extract_right, h1, List.length_cons]
   omega
  ·rw [List.length_cons, Lib.splitB_hit _ _ _ _ _ hh, extract_left, extract_right, h2]
   rfl
def orL (l : List Int) : BitVec 64 := l.foldl (fun b c => b ||| (1#64 <<< c.toNat)) 0#64
theorem orL_snoc (l : List Int) (c : Int) : orL (l ++ [c]) = orL l ||| (1#64 <<< c.toNat) := by simp [orL]
theorem orF_bit (i : Nat) (hi : i < 64) : ∀ (l : List Int) (b : BitVec 64), (∀ x ∈ l, 0 ≤ x ∧ x < 64) → (l.foldl (fun b c => b ||| (1#64 <<< c.toNat)) b).getLsbD i = (b.getLsbD i || decide ((i : Int) ∈ l))
 | [], b, _ => by simp
 | c :: l, b, hl => by
  have hc := hl c (List.mem_cons_self ..)
  rw [List.foldl_cons, orF_bit i hi l _ (fun x hx => hl x (List.mem_cons_of_mem _ hx)), BitVec.getLsbD_or]
  have h2 : (1#64 <<< c.toNat).getLsbD i = decide ((i : Int) = c) := by
   rw [BitVec.getLsbD_shiftLeft]
   by_cases hic : (i : Int) = c
   ·have h3 : i = c.toNat := by omega
    have h4 : i - c.toNat = 0 := by omega
    rw [h4]
    simp [hic, hi]
   ·simp [hic]
    intros
    omega
  rw [h2]
  by_cases h3 : (i : Int) ∈ l <;> by_cases h4 : (i : Int) = c <;> simp [h3, h4]
theorem orL_bit (l : List Int) (hl : ∀ x ∈ l, 0 ≤ x ∧ x < 64) (i : Nat) (hi : i < 64) : (orL l).getLsbD i = decide ((i : Int) ∈ l) := by
 unfold orL
 rw [orF_bit i hi l _ hl]
 simp
theorem orL_cats (a : BitVec 64) : orL (catsI a 64) = a := by
 apply BitVec.eq_of_getLsbD_eq
 intro i hi
 rw [orL_bit _ (fun x hx => catsI_mem hx) i hi]
 have : (i : Int) ∈ catsI a 64 ↔ a.getLsbD i = true := by
  simp only [catsI, catsTo, List.mem_map, List.mem_filter, List.mem_range]
  constructor
  ·rintro ⟨c, ⟨h1, h2⟩, h3⟩
   have : c = i := Int.ofNat.inj h3
   subst this
   exact h2
  ·intro h
   exact ⟨i, ⟨hi, h⟩, rfl⟩
 by_cases h : a.getLsbD i = true
 ·rw [h, decide_eq_true (this.2 h)]
 ·rw [decide_eq_false (fun k => h (this.1 k))]
  simpa using h
theorem labelS_none : labelS ⟨0, 0#64⟩ = ⟨#[48]⟩ := by
 have h : catsI 0#64 64 = [] := by decide
 rw [labelS_nil h]
 rfl
end Go.Proofs.YtlofomkhiefbmaaGreatDoor

namespace Go.Proofs.YtlofomkhiefbmaaGreatDoor
open Go.RowKit
structure PolV where
 lv : Int
 ct : Int
 p2 : Int
 p3 : Int
 p4 : Int
 p5 : Int
 p6 : ByteArray
 A7 : Option Addr
 n7 : Nat
 k7 : Nat
 A8 : Option Addr
 n8 : Nat
 k8 : Nat
def itemRow (x : Item) : List Value := [.int .i64 x.id, .int .i64 x.label.level, .int .u64 (x.label.cats.toNat : Int), .bool x.anchor, .string x.line.text, .bool x.line.bare]
def Rd (tr ti tl B g : Nat) (p : PolV) (op : List Label) (out : List Item) (ln : Int) (ah : Bool) (w : World) (C : Gh) : Prop :=
 ∃ (Ao : Option Addr) (co : Nat) (A : Option Addr) (c : Nat), B ≤ g ∧ St w C g [.int .i64 p.lv, .int .i64 p.ct, .int .i64 p.p2, .int .i64 p.p3, .int .i64 p.p4, .int .i64 p.p5, .string p.p6, .slice p.A7 p.n7 p.k7, .slice p.A8 p.n8 p.k8, .slice Ao op.length co, .slice A (out.map itemRow).length c, .int .i64 ln, .bool ah] tr ∧
  Sl kLabel C Ao co op ∧ Own B tl 2 w C Ao op.length co ∧ MRow B ti 6 w C A c (out.map itemRow)
theorem Rd.call {tr ti tl B g : Nat} {p : PolV} {op : List Label} {out : List Item} {ln : Int} {ah : Bool} {w w' : World} {C C' : Gh} (h : Rd tr ti tl B g p op out ln ah w C) (e : Ext w.heap.size w C w' C') : Rd tr ti tl B g p op out ln ah w' C' :=
 let ⟨Ao, co, A, c, h1, h3, h5, h6, h4⟩ := h
 ⟨Ao, co, A, c, h1, h3.call e, h5.mono e.le, h6.call e, h4.call e⟩
theorem Rd.lt {tr ti tl B g : Nat} {p : PolV} {op : List Label} {out : List Item} {ln : Int} {ah : Bool} {w : World} {C : Gh} (h : Rd tr ti tl B g p op out ln ah w C) : B ≤ g ∧ g < w.heap.size :=
 let ⟨_, _, _, _, h1, h3, _⟩ := h
 ⟨h1, h3.lt⟩
theorem MRow.newNe {B e sz : Nat} {w : World} {C : Gh} {A : Option Addr} {c : Nat} {rows : List (List Value)} (h : MRow B e sz w C A c rows) {g : Nat} (hg : w.heap.size ≤ g) : ∀ q, A = some q → q.block ≠ g := by
 rcases h with ⟨rfl, _⟩ | ⟨g', spare, rfl, h2, h3, _⟩
 ·intro q h; cases h
 ·intro q h
  cases h
  have := h3.lt
  show g' ≠ g
  omega
theorem MRow.otherNe {B e sz g : Nat} {w w' : World} {C C' : Gh} {A : Option Addr} {c : Nat} {rows : List (List Value)} (h : MRow B e sz w C A c rows) (m : Mut g w C w' C') (hne : ∀ q, A = some q → q.block ≠ g) : MRow B e sz w' C' A c rows := by
 rcases h with h | ⟨g', spare, rfl, h2, h3, h4⟩
 ·exact .inl h
 ·exact .inr ⟨g', spare, rfl, h2, h3.other m (hne _ rfl), h4⟩
theorem MRow.bd {B e sz : Nat} {w : World} {C : Gh} {A : Option Addr} {c : Nat} {rows : List (List Value)} (h : MRow B e sz w C A c rows) : rows.length ≤ 9223372036854775807 := by
 rcases h with ⟨rfl, _, rfl⟩ | ⟨g', spare, rfl, h2, h3, h4, h5, _⟩
 ·simp
 ·omega
theorem at_last {α : Type} {l : List α} {x t : α} {i : Nat} (h : l[i]? = some x) (hi : i = l.length - 1) (ht : l[l.length - 1]? = some t) : x = t := by
 rw [hi, ht] at h
 exact (Option.some.inj h).symm
section
variable {P : Program} {ρ : Operand → Value} {d : Option Tmp} {ty : TypeId} {pos : String} {af : Array Edge} {gd : Option (Nat × Bool)} {w : World} {t t' : TypeId} {x y xl : Operand}
theorem r_sliceStrLR {s r : ByteArray} {l : Int} (hu : P.underlying t = some .string) (hx : ρ x = .string s) (hl : ρ xl = .int .i64 l) (h1 : 0 ≤ l) (h3 : l ≤ s.size) (h : s.extract l.toNat s.size = r) :
  (execOp ρ ⟨d, .slice t x (some xl) none none, ty, pos, af, gd⟩).run P w = .ok (.value (.string r)) w := by
 rw [r_sliceStrL hu hx hl h1 h3, h]
end
theorem extract_app {s r : ByteArray} : (s ++ r).extract s.size (s ++ r).size = r := by
 refine ba_ext ?_
 have hl : s.data.toList.length = s.size := rfl
 have hz : (s ++ r).size = s.size + r.size := ByteArray.size_append
 rw [ByteArray.data_extract, Array.toList_extract, app_list, List.extract_eq_take_drop, hz, ← hl, List.drop_left]
 rw [List.take_of_length_le]
 have : r.data.toList.length = r.size := rfl
 omega
theorem begin_ext (a : Label) : (eBegin ++ labelS a).extract (9 : Int).toNat (eBegin ++ labelS a).size = labelS a := extract_app (s := eBegin)
theorem sign_ext (s : ByteArray) : ((⟨#[64]⟩ : ByteArray) ++ s).extract (1 : Int).toNat ((⟨#[64]⟩ : ByteArray) ++ s).size = s := extract_app (s := ⟨#[64]⟩)
theorem begin_pre (a : Label) : Lib.hasPrefix (eBegin ++ labelS a).data.toList [64, 64, 32, 98, 101, 103, 105, 110, 32] = true := by
 rw [app_list]
 show List.isPrefixOf [64, 64, 32, 98, 101, 103, 105, 110, 32] ([64, 64, 32, 98, 101, 103, 105, 110, 32] ++ (labelS a).data.toList) = true
 simp [List.isPrefixOf]
theorem begin_pre2 (a : Label) : Lib.hasPrefix (eBegin ++ labelS a).data.toList [64, 64] = true := by
 rw [app_list]
 show List.isPrefixOf [64, 64] ([64, 64, 32, 98, 101, 103, 105, 110, 32] ++ (labelS a).data.toList) = true
 simp [List.isPrefixOf]
theorem begin_pre3 (a : Label) : Lib.hasPrefix (eBegin ++ labelS a).data.toList [64, 64, 64] = false := by
 rw [app_list]
 show List.isPrefixOf [64, 64, 64] ([64, 64, 32, 98, 101, 103, 105, 110, 32] ++ (labelS a).data.toList) = false
 simp [List.isPrefixOf]
theorem sign_pre3 {s : ByteArray} (h : signed s = true) : Lib.hasPrefix ((⟨#[64]⟩ : ByteArray) ++ s).data.toList [64, 64, 64] = true := by
 rw [app_list]
 show List.isPrefixOf [64, 64, 64] ([64] ++ s.data.toList) = true
 unfold signed Lib.hasPrefix at h
 simpa [List.isPrefixOf] using h
theorem plain_pre3 {s : ByteArray} (h : signed s = false) : Lib.hasPrefix s.data.toList [64, 64, 64] = false := by
 unfold signed Lib.hasPrefix at *
 match hs : s.data.toList with
 | [] => rfl
 | [b] => simp [List.isPrefixOf]
 | [b, c] => simp [List.isPrefixOf]
 | b :: c :: e :: l =>
  rw [hs] at h
  simp only [List.isPrefixOf, Bool.and_true, Bool.and_eq_false_iff] at h ⊢
  rcases h with h | h
  ·exact .inl h
  ·exact .inr (.inl h)
end Go.Proofs.YtlofomkhiefbmaaGreatDoor

namespace Go.Proofs.YtlofomkhiefbmaaGreatDoor
open Go.ChangeShapes Go.WideShapes Go.ChangeAt Go.RowKit Go.Deep
section
variable {H : Type} {enc : TypeId × Value → H} {P : Program} {w : World} {base : Nat} {spare : Nat → Bool} {held : Bool}
theorem el_label {e : TypeId} {f0 f1 : Field} (hu : P.underlying e = some (.struct #[f0, f1])) (u0 : P.underlying f0.type = some (.int .i64)) (u1 : P.underlying f1.type = some (.int .u64)) (o0 : P.cellsOf f0.type = 1) (o1 : P.cellsOf f1.type = 1) (of0 : f0.offset = 0) (of1 : f1.offset = 1)
  (n : Nat) (cs : List Value) (y : DataW H × List MemPlace) (hl : cs.length = 2) (h : DataW.trod enc P w base spare held n e cs = some y) : ∃ q : Label, cs = [.int .i64 q.level, .int .u64 (q.cats.toNat : Int)] := by
 obtain ⟨y0, y1, k, hxy, _, h0, h1⟩ := trod_struct2 hu h
 match cs, hl with
 | [v0, v1], _ =>
  rw [o0, of0] at h0
  rw [o1, of1] at h1
  simp only [List.drop, List.take] at h0 h1
  obtain ⟨a, e0, _⟩ := DataW.trod_int u0 h0
  obtain ⟨b, e1, _, hw⟩ := DataW.trod_int u1 h1
  simp only [List.cons.injEq, and_true] at e0 e1
  subst e0 e1
  obtain ⟨hb0, hb1⟩ := bounds_u64 hw
  refine ⟨⟨a, BitVec.ofNat 64 b.toNat⟩, ?_⟩
  have : ((BitVec.ofNat 64 b.toNat).toNat : Int) = b := by
   rw [BitVec.toNat_ofNat]
   omega
  rw [this]
theorem el_item {e : TypeId} {f0 f1 f2 f3 l0 l1 t0 t1 : Field} (hu : P.underlying e = some (.struct #[f0, f1, f2, f3])) (u0 : P.underlying f0.type = some (.int .i64)) (u1 : P.underlying f1.type = some (.struct #[l0, l1])) (u2 : P.underlying f2.type = some .bool) (u3 : P.underlying f3.type = some (.struct #[t0, t1]))
  (v0 : P.underlying l0.type = some (.int .i64)) (v1 : P.underlying l1.type = some (.int .u64)) (z0 : P.underlying t0.type = some .string) (z1 : P.underlying t1.type = some .bool)
  (o0 : P.cellsOf f0.type = 1) (o1 : P.cellsOf f1.type = 2) (o2 : P.cellsOf f2.type = 1) (o3 : P.cellsOf f3.type = 2) (q0 : P.cellsOf l0.type = 1) (q1 : P.cellsOf l1.type = 1) (r0 : P.cellsOf t0.type = 1) (r1 : P.cellsOf t1.type = 1)
  (of0 : f0.offset = 0) (of1 : f1.offset = 1) (of2 : f2.offset = 3) (of3 : f3.offset = 4) (ol0 : l0.offset = 0) (ol1 : l1.offset = 1) (ot0 : t0.offset = 0) (ot1 : t1.offset = 1)
  (n : Nat) (cs : List Value) (y : DataW H × List MemPlace) (hl : cs.length = kItem.sz) (h : DataW.trod enc P w base spare held n e cs = some y) : ∃ q, kItem.R (allC w) q cs := by
 obtain ⟨y0, y1, y2, y3, k, hxy, _, h0, h1, h2, h3⟩ := Joins.trod_struct4 hu h
 match cs, hl with
 | [c0, c1, c2, c3, c4, c5], _ =>
  rw [o0, of0] at h0
  rw [o1, of1] at h1
  rw [o2, of2] at h2
  rw [o3, of3] at h3
  simp only [List.drop, List.take] at h0 h1 h2 h3
  obtain ⟨a, e0, _⟩ := DataW.trod_int u0 h0
  obtain ⟨b, e1⟩ := el_label u1 v0 v1 q0 q1 ol0 ol1 _ _ _ rfl h1
  obtain ⟨c, e2, _⟩ := DataW.trod_bool u2 h2
  obtain ⟨l, e3⟩ := el_line u3 z0 z1 r0 r1 ot0 ot1 _ _ _ rfl h3
  simp only [List.cons.injEq, and_true] at e0 e1 e2
  obtain ⟨e1, e1'⟩ := e1
  have e3' : [c4, c5] = [.string l.text, .bool l.bare] := e3
  simp only [List.cons.injEq, and_true] at e3'
  obtain ⟨e3, e4⟩ := e3'
  subst e0 e1 e1' e2 e3 e4
  exact ⟨⟨a, b, c, l⟩, rfl⟩
theorem open_label {t : TypeId} {f0 f1 : Field} {v : Value} {d : DataW H} {p : List MemPlace} {r : Reach} {b0 : Nat} (hu : P.underlying t = some (.struct #[f0, f1])) (hc : P.cellsOf t = 2) (u0 : P.underlying f0.type = some (.int .i64)) (u1 : P.underlying f1.type = some (.int .u64)) (o0 : P.cellsOf f0.type = 1) (o1 : P.cellsOf f1.type = 1) (of0 : f0.offset = 0) (of1 : f1.offset = 1)
  (hv : Value.okWide P w r b0 t v) (h : DataW.Trod enc P w base spare held t v d p) : ∃ q : Label, v = .agg #[.int .i64 q.level, .int .u64 (q.cats.toNat : Int)] := by
 obtain ⟨cs, rfl, hsz⟩ := okWide_struct hu hv
 obtain ⟨fuel, hf⟩ := h
 obtain ⟨q, hq⟩ := el_label hu u0 u1 o0 o1 of0 of1 fuel cs.toList _ (by rw [Array.length_toList, hsz, hc]) hf
 exact ⟨q, congrArg Value.agg (Array.toList_inj.1 hq)⟩
theorem list9 {α : Type} {l : List α} (h : l.length = 9) : ∃ a b c d e f g i j, l = [a, b, c, d, e, f, g, i, j] := by
 match l, h with
 | [a, b, c, d, e, f, g, i, j], _ => exact ⟨a, b, c, d, e, f, g, i, j, rfl⟩
theorem slice_form' {t e : TypeId} {fuel : Nat} {c : Value} {y : Option (DataW H × List MemPlace)} (ht : P.underlying t = some (.slice e)) (hf : DataW.trod enc P w base spare held fuel t [c] = y) (hy : y.isSome = true) : ∃ a l k, c = .slice a l k := by
 obtain ⟨y', rfl⟩ := Option.isSome_iff_exists.1 hy
 rcases open_slice ht hf with ⟨hcs, _⟩ | ⟨a', len', cap', m, n, D, Pl, hcs, _⟩
 ·simp only [List.cons.injEq, and_true] at hcs
  exact ⟨_, _, _, hcs⟩
 ·simp only [List.cons.injEq, and_true] at hcs
  exact ⟨_, _, _, hcs⟩
theorem int_form {t : TypeId} {fuel : Nat} {c : Value} {y : Option (DataW H × List MemPlace)} (ht : P.underlying t = some (.int .i64)) (hf : DataW.trod enc P w base spare held fuel t [c] = y) (hy : y.isSome = true) : ∃ z, c = .int .i64 z := by
 obtain ⟨y', rfl⟩ := Option.isSome_iff_exists.1 hy
 obtain ⟨z, e, _⟩ := DataW.trod_int ht hf
 simp only [List.cons.injEq, and_true] at e
 exact ⟨z, e⟩
theorem string_form {t : TypeId} {fuel : Nat} {c : Value} {y : Option (DataW H × List MemPlace)} (ht : P.underlying t = some .string) (hf : DataW.trod enc P w base spare held fuel t [c] = y) (hy : y.isSome = true) : ∃ z, c = .string z := by
 obtain ⟨y', rfl⟩ := Option.isSome_iff_exists.1 hy
 obtain ⟨z, e, _⟩ := DataW.trod_string ht hf
 simp only [List.cons.injEq, and_true] at e
 exact ⟨z, e⟩
theorem open_policy {t : TypeId} {f0 f1 f2 f3 f4 f5 f6 f7 f8 : Field} {e7 e8 : TypeId} {v : Value} {d : DataW H} {p : List MemPlace} {r : Reach} {b0 : Nat} (hu : P.underlying t = some (.struct #[f0, f1, f2, f3, f4, f5, f6, f7, f8])) (hc : P.cellsOf t = 9)
  (u0 : P.underlying f0.type = some (.int .i64)) (u1 : P.underlying f1.type = some (.int .i64)) (u2 : P.underlying f2.type = some (.int .i64)) (u3 : P.underlying f3.type = some (.int .i64)) (u4 : P.underlying f4.type = some (.int .i64)) (u5 : P.underlying f5.type = some (.int .i64)) (u6 : P.underlying f6.type = some .string) (u7 : P.underlying f7.type = some (.slice e7)) (u8 : P.underlying f8.type = some (.slice e8))
  (o0 : ([f0, f1, f2, f3, f4, f5, f6, f7, f8].all fun f => decide (P.cellsOf f.type = 1)) = true) (of : [f0, f1, f2, f3, f4, f5, f6, f7, f8].map (·.offset) = [0, 1, 2, 3, 4, 5, 6, 7, 8])
  (hv : Value.okWide P w r b0 t v) (h : DataW.Trod enc P w base spare held t v d p) : ∃ q : PolV, v = .agg #[.int .i64 q.lv, .int .i64 q.ct, .int .i64 q.p2, .int .i64 q.p3, .int .i64 q.p4, .int .i64 q.p5, .string q.p6, .slice q.A7 q.n7 q.k7, .slice q.A8 q.n8 q.k8] := by
 have o : ∀ f ∈ [f0, f1, f2, f3, f4, f5, f6, f7, f8], P.cellsOf f.type = 1 := fun f hf => of_decide_eq_true (List.all_eq_true.1 o0 f hf)
 obtain ⟨cs, rfl, hsz⟩ := okWide_struct hu hv
 obtain ⟨fuel, hf⟩ := h
 obtain ⟨xs, n, _, _, _, hlen, hx⟩ := DataW.trod_struct hu hf
 have hl : cs.toList.length = 9 := by rw [Array.length_toList, hsz, hc]
 obtain ⟨c0, c1, c2, c3, c4, c5, c6, c7, c8, hcs⟩ := list9 hl
 have hcells : (Value.agg cs).cells.toList = [c0, c1, c2, c3, c4, c5, c6, c7, c8] := hcs
 rw [hcells] at hx
 have hn : ∀ i, i < 9 → (xs[i]?).isSome = true := fun i hi => by
  have : i < xs.length := by rw [hlen]; exact hi
  simp [this]
 simp only [List.map_cons, List.map_nil, List.cons.injEq, and_true] at of
 obtain ⟨of0, of1, of2, of3, of4, of5, of6, of7, of8⟩ := of
 have k0 := hx 0 f0 rfl
 have k1 := hx 1 f1 rfl
 have k2 := hx 2 f2 rfl
 have k3 := hx 3 f3 rfl
 have k4 := hx 4 f4 rfl
 have k5 := hx 5 f5 rfl
 have k6 := hx 6 f6 rfl
 have k7 := hx 7 f7 rfl
 have k8 := hx 8 f8 rfl
 rw [o f0 (by simp), of0] at k0
 rw [o f1 (by simp), of1] at k1
 rw [o f2 (by simp), of2] at k2
 rw [o f3 (by simp), of3] at k3
 rw [o f4 (by simp), of4] at k4
 rw [o f5 (by simp), of5] at k5
 rw [o f6 (by simp), of6] at k6
 rw [o f7 (by simp), of7] at k7
 rw [o f8 (by simp), of8] at k8
 simp only [List.drop, List.take] at k0 k1 k2 k3 k4 k5 k6 k7 k8
 obtain ⟨z0, rfl⟩ := int_form u0 k0 (hn 0 (by decide))
 obtain ⟨z1, rfl⟩ := int_form u1 k1 (hn 1 (by decide))
 obtain ⟨z2, rfl⟩ := int_form u2 k2 (hn 2 (by decide))
 obtain ⟨z3, rfl⟩ := int_form u3 k3 (hn 3 (by decide))
 obtain ⟨z4, rfl⟩ := int_form u4 k4 (hn 4 (by decide))
 obtain ⟨z5, rfl⟩ := int_form u5 k5 (hn 5 (by decide))
 obtain ⟨z6, rfl⟩ := string_form u6 k6 (hn 6 (by decide))
 obtain ⟨a7, n7, m7, rfl⟩ := slice_form' u7 k7 (hn 7 (by decide))
 obtain ⟨a8, n8, m8, rfl⟩ := slice_form' u8 k8 (hn 8 (by decide))
 exact ⟨⟨z0, z1, z2, z3, z4, z5, z6, a7, n7, m7, a8, n8, m8⟩, congrArg Value.agg (Array.toList_inj.1 hcs)⟩
end
end Go.Proofs.YtlofomkhiefbmaaGreatDoor

namespace Go.Proofs.YtlofomkhiefbmaaGreatDoor
theorem mixed : Tryz.prog.follows .mixedOrders = true := by kernel_rfl
theorem info3 : Tryz.prog.info? 3 = some Tryz.t3 := by kernel_rfl
theorem zero3 : Tryz.t3.zero = some (Value.int .i64 0) := by kernel_rfl
theorem info5 : Tryz.prog.info? 5 = some Tryz.t5 := by kernel_rfl
theorem zero5 : Tryz.t5.zero = some (Value.int .u8 0) := by kernel_rfl
theorem info35 : Tryz.prog.info? 35 = some Tryz.t35 := by kernel_rfl
theorem zero35 : Tryz.t35.zero = some (Value.agg #[Value.string ByteArray.empty, Value.bool false]) := by kernel_rfl
theorem info45 : Tryz.prog.info? 45 = some Tryz.t45 := by kernel_rfl
theorem zero45 : Tryz.t45.zero = some (Value.slice none 0 0) := by kernel_rfl
theorem info46 : Tryz.prog.info? 46 = some Tryz.t46 := by kernel_rfl
theorem zero46 : Tryz.t46.zero = some (Value.slice none 0 0) := by kernel_rfl
theorem info93 : Tryz.prog.info? 93 = some Tryz.t93 := by kernel_rfl
theorem info137 : Tryz.prog.info? 137 = some Tryz.t137 := by kernel_rfl
theorem zero137 : Tryz.t137.zero = some (Value.int .i64 0) := by kernel_rfl
theorem info139 : Tryz.prog.info? 139 = some Tryz.t139 := by kernel_rfl
theorem zero139 : Tryz.t139.zero = some (Value.agg #[Value.int .i64 0, Value.slice none 0 0]) := by kernel_rfl
theorem info150 : Tryz.prog.info? 150 = some Tryz.t150 := by kernel_rfl
theorem zero150 : Tryz.t150.zero = some (Value.agg #[Value.int .i64 0, Value.int .i64 0, Value.int .i64 0, Value.int .i64 0, Value.slice none 0 0]) := by kernel_rfl
theorem eqT35 (w : World) (a0 : ByteArray) (a1 : Bool) (b0 : ByteArray) (b1 : Bool) : (Op.equal 35 (.agg #[.string a0, .bool a1]) (.agg #[.string b0, .bool b1])).run Tryz.prog w = .ok (decide ((⟨a0, a1⟩ : Line) = ⟨b0, b1⟩)) w := by
  refine (eqA_of Tryz.underlying35 Tryz.stoodInHeld35 (eqf_cons rfl (part1 Tryz.isAgg9 rfl) (part1 Tryz.isAgg9 rfl) (eq_str Tryz.runUnderlying9) (eqf_last rfl (part1 Tryz.isAgg4 rfl) (part1 Tryz.isAgg4 rfl) (eq_bool Tryz.runUnderlying4)))).trans ?_
  simp only [Line.mk.injEq, Bool.decide_and]
end Go.Proofs.YtlofomkhiefbmaaGreatDoor

namespace Go.Proofs.YtlofomkhiefbmaaGreatDoor
open Go.RowKit
section
variable {P : Program} {N : Nat} {fn : Func} {R : Value → World → Prop} {T : Fr} {w : World}
def bodyFD (P : Program) (fn : Func) (df : Deferred) (R : Value → World → Prop) : Exit → Fr → World → Prop
 | .normal, T, w | .ret, T, w => ∀ tmps : Array Value, (∀ t, tmps.getD t undef = T t) → LeavesInM Fence.wide 0 P fn tmps (fun e w' => ∃ v, e = .returned v ∧ R v w') [df] .returning w
 | _, _, _ => False
theorem bodyM_of_defer {df : Deferred} {e : Exit} {a : Act} {w : World} (h : wrap N [df] (bodyFD P fn df R) e a w) : bodyPostM Fence.wide 0 P fn (fun e w' => ∃ v, e = .returned v ∧ R v w') e a w := by
 cases e <;> simp only [wrap, bodyFD, bodyPostM] at h ⊢
 case normal => obtain ⟨T', h1, h2⟩ := h; rw [h1.defers]; exact h2 a.tmps h1.get
 case ret => obtain ⟨T', h1, h2⟩ := h; rw [h1.defers]; exact h2 a.tmps h1.get
 all_goals first | exact h.elim | (obtain ⟨_, _, h⟩ := h; exact h.elim)
theorem FM.defer {id : Nat} {o1 o2 : Oper} {y : Code} (d : Nat) (h1d : o1.dst = some d) (hw1 : wantedF #[o1, o2] T o1 = true) (v : Value) (hrun1 : (execOp (ev T) o1).run P w = .ok (.value v) w) (hd : Nat.blt d N = true)
  (h2d : o2.dst = none) (hw2 : wantedF #[o1, o2] (upd T d v) o2 = true) (df : Deferred) (hrun2 : (execOp (ev (upd T d v)) o2).run P w = .ok (.defer df) w)
  (h : FW [df] P N y (bodyFD P fn df R) (upd T d v) w) : FM P N fn ((Code.region id #[o1, o2] false).seq y) R T w := fun a ha => by
 have ha2 := ha.put (lt_of_blt hd) v
 refine wpIn_seq (wpIn_region_lit (l := [o1, o2]) ?_)
 simp only [wpListIn, wanted_eq ha, hw1, if_true]
 unfold Oper.wpIn
 refine ⟨fun f _ => trivial, ?_⟩
 rw [ha.eval, semAt_run hrun1 (fun _ _ => by simp) (fun _ _ => by simp), Oper.uponIn_value, h1d]
 simp only [wanted_eq ha2, hw2, if_true]
 refine ⟨fun f _ => trivial, ?_⟩
 rw [ha2.eval, show Fence.wide.round = none from rfl, Oper.semAt_none, hrun2, Oper.uponIn_defer, h2d]
 refine wpIn_mono (h _ wide_loose _ ⟨?_, ?_, ?_⟩) fun e a w hw => bodyM_of_defer hw
 ·exact ha2.size
 ·show df :: _ = _
  rw [ha2.defers]
 ·exact ha2.get
theorem ret_defer {df : Deferred} {fv : Go.Fn} {cap args : Array Value} {f : FuncId} {K : World → Prop} (ht : df.target = .fn fv cap) (hinv : (invoke df.target df.args).run P w = .ok (.enter f args) w)
  (hc : CallsDIn Fence.wide 0 P f args .returning w fun e u w' => u = .returning ∧ (∃ v, e = .returned v) ∧ K w')
  (hK : ∀ w', K w' → ∀ tmps : Array Value, (∀ t, tmps.getD t undef = T t) → ∃ v, (results fn tmps).run P w' = .ok v w' ∧ R v w') {e : Exit} (he : e = .ret ∨ e = .normal) : bodyFD P fn df R e T w := by
 have key : ∀ tmps : Array Value, (∀ t, tmps.getD t undef = T t) → LeavesInM Fence.wide 0 P fn tmps (fun e w' => ∃ v, e = .returned v ∧ R v w') [df] .returning w := fun tmps htm =>
  ⟨(by simp), .inr ⟨(fun h => by cases h), fv, cap, f, args, ht, hinv, (fun _ _ => trivial), CallsDIn.mono hc (fun e u w' ⟨hu, ⟨v, hv⟩, hk⟩ => (by
   subst hu hv
   obtain ⟨v', h1, h2⟩ := hK w' hk tmps htm
   exact ⟨v', h1, v', rfl, h2⟩))⟩⟩
 rcases he with rfl | rfl <;> exact key
theorem recover_none {f : FuncId} {id : Nat} {o1 o2 : Oper} {y : Code} {args : Array Value} {d1 d2 : Nat} {R' : World → Prop} (hf : P.funcs[f]? = some fn) (hb : fn.body = some ((Code.region id #[o1, o2] false).seq y)) (hn : fn.ntmps = N) (hs' : Nat.ble args.size N = true)
  (h1d : o1.dst = some d1) (hw1 : ∀ tm, Region.wanted o1 (yielded #[o1, o2] tm) = true) (hrun1 : ∀ T : Fr, (execOp (ev T) o1).run P w = .ok .recover w) (hd1 : Nat.blt d1 N = true)
  (h2d : o2.dst = some d2) (hw2 : ∀ tm, Region.wanted o2 (yielded #[o1, o2] tm) = true) (hrun2 : ∀ T : Fr, T d1 = .nilIface → (execOp (ev T) o2).run P w = .ok (.value .nilIface) w) (hd2 : Nat.blt d2 N = true)
  (h : FW [] P N y (bodyF P fn fun _ w' => R' w') (upd (upd (args0 args) d1 .nilIface) d2 .nilIface) w) :
  CallsDIn Fence.wide 0 P f args .returning w fun e u w' => u = .returning ∧ (∃ v, e = .returned v) ∧ R' w' := by
 have hs : args.size ≤ N := Nat.le_of_ble_eq_true hs'
 refine callsDIn_of_wpSIn hf hb trivial fun c₀ cs hm => wpSIn_seq (wpSIn_region ?_)
 have ha := rel_args (args := args) hn hs
 have ha1 := ha.put (lt_of_blt hd1) .nilIface
 have ha2 := ha1.put (lt_of_blt hd2) .nilIface
 have hrec : recoverD (c₀ :: cs) = none := by simp [recoverD, hm]
 show wpOpsSIn _ _ _ _ _ [0, 1] _ _ _
 simp only [wpOpsSIn, List.getElem?_toArray, List.getElem?_cons_zero, List.getElem?_cons_succ, hw1, hw2, if_true]
 refine ⟨fun _ _ => trivial, ?_⟩
 rw [ha.eval, hrun1]
 simp only [hrec, h1d]
 refine ⟨fun _ _ => trivial, ?_⟩
 rw [ha1.eval, hrun2 _ (by simp [upd])]
 simp only [h2d]
 refine wpSIn_of_wpIn rfl (wpIn_mono (h _ wide_loose _ ha2) fun e a' w' hw => ?_)
 cases e <;> simp only [wrap, bodyF, bodyPostS] at hw ⊢
 case normal =>
  obtain ⟨T', h1, h2⟩ := hw
  obtain ⟨v, hv, hR⟩ := h2 a'.tmps h1.get
  exact ⟨h1.defers, .returning, by rw [← hm], v, hv, rfl, ⟨v, rfl⟩, hR⟩
 case ret =>
  obtain ⟨T', h1, h2⟩ := hw
  obtain ⟨v, hv, hR⟩ := h2 a'.tmps h1.get
  exact ⟨h1.defers, .returning, by rw [← hm], v, hv, rfl, ⟨v, rfl⟩, hR⟩
 all_goals first | exact hw.elim | (obtain ⟨_, _, h⟩ := hw; exact h.elim)
end
section
variable {P : Program} {ρ : Operand → Value} {d : Option Tmp} {ty : TypeId} {pos : String} {af : Array Edge} {gd : Option (Nat × Bool)} {w : World} {t t' : TypeId} {x y : Operand}
theorem r_typeAssertNil {xt ta : TypeId} {z : Value} {s : Array Field} (hu : P.underlying ta = some (.struct s)) (hz : ∀ w, (zeroValue ta).run P w = .ok z w) (hx : ρ x = .nilIface) :
  (execOp ρ ⟨d, .typeAssert x xt ta true, ty, pos, af, gd⟩).run P w = .ok (.value (.tuple #[z, .bool false])) w := by
 simp [execOp, hx, Instr.typeAssert, underlying, hu, hz]
theorem equalIn_nilI {n : Nat} {ms : Array (String × TypeId)} (hu : ∀ w, (underlying t).run P w = .ok (.interface ms) w) : (Op.equalIn (n + 1) t .nilIface .nilIface).run P w = .ok true w := by
 simp [Op.equalIn, hu]
theorem r_neqNilIface {ms : Array (String × TypeId)} (hu : ∀ w, (underlying t).run P w = .ok (.interface ms) w) (hx : ρ x = .nilIface) (hy : ρ (.const .nilIface) = .nilIface) :
  (execOp ρ ⟨d, .binOp .neq t x (.const .nilIface) t', ty, pos, af, gd⟩).run P w = .ok (.value (.bool false)) w := by
 simp only [execOp, hx, hy, eqGuard, binOp, equal_at, Sem.run_bind, equalIn_nilI hu]
 simp
end
end Go.Proofs.YtlofomkhiefbmaaGreatDoor

namespace Go.Proofs.YtlofomkhiefbmaaGreatDoor
def joinB (ts : List ByteArray) : List UInt8 := ts.flatMap fun t => t.data.toList ++ [10]
def mkL (t : ByteArray) : Line := ⟨t, false⟩
theorem joinB_at {ts : List ByteArray} {k : Nat} {t : ByteArray} (h : ts[k]? = some t) : joinB (ts.drop k) = t.data.toList ++ 10 :: joinB (ts.drop (k + 1)) := by
 obtain ⟨h1, h2⟩ := List.getElem?_eq_some_iff.1 h
 rw [List.drop_eq_getElem_cons h1, h2]
 simp [joinB]
theorem size_list (t : ByteArray) : t.data.toList.length = t.size := rfl
theorem joinB_len {ts : List ByteArray} {k : Nat} {t : ByteArray} (h : ts[k]? = some t) : (bt (joinB (ts.drop k))).length = t.size + 1 + (joinB (ts.drop (k + 1))).length := by
 rw [bt_len, joinB_at h, List.length_append, List.length_cons, size_list]
 omega
theorem joinB_some {ts : List ByteArray} {k : Nat} (h : 0 < (bt (joinB (ts.drop k))).length) : ∃ t, ts[k]? = some t := by
 by_cases hk : k < ts.length
 ·exact ⟨_, List.getElem?_eq_getElem hk⟩
 ·rw [List.drop_eq_nil_of_le (by omega)] at h
  exact absurd h (by simp [joinB, bt])
theorem line_byte {ts : List ByteArray} {k i : Nat} {t : ByteArray} {x : Int} (h : ts[k]? = some t) (hn : ¬ nlS t) (hi : i ≤ t.size) (hx : (bt (joinB (ts.drop k)))[i]? = some x) : (x = 10 → i = t.size) ∧ (¬ x = 10 → i + 1 ≤ t.size) := by
 obtain ⟨b, hb, rfl⟩ := bt_at hx
 rw [joinB_at h] at hb
 by_cases hlt : i < t.size
 ·rw [List.getElem?_append_left (by rw [size_list]; exact hlt)] at hb
  refine ⟨fun h10 => absurd (List.mem_of_getElem? hb) ?_, fun _ => hlt⟩
  have : b = 10 := UInt8.toNat_inj.1 (by simp; omega)
  rw [this]
  exact hn
 ·have he : i = t.size := by omega
  subst he
  rw [List.getElem?_append_right (by rw [size_list]; exact Nat.le_refl _), size_list, Nat.sub_self] at hb
  simp at hb
  subst hb
  exact ⟨fun _ => rfl, fun h => absurd rfl h⟩
theorem joinB_take {ts : List ByteArray} {k i : Nat} {t : ByteArray} (h : ts[k]? = some t) (hi : i = t.size) : (bt (joinB (ts.drop k))).take i = bt t.data.toList := by
 subst hi
 rw [joinB_at h, bt, List.map_append, List.take_append_of_le_length (by rw [List.length_map, size_list]; exact Nat.le_refl _), List.take_of_length_le (by rw [List.length_map, size_list]; exact Nat.le_refl _)]
 rfl
theorem joinB_drop {ts : List ByteArray} {k i : Nat} {t : ByteArray} (h : ts[k]? = some t) (hi : i = t.size) : (bt (joinB (ts.drop k))).drop (i + 1) = bt (joinB (ts.drop (k + 1))) := by
 subst hi
 have e : bt (joinB (ts.drop k)) = (bt t.data.toList ++ [10]) ++ bt (joinB (ts.drop (k + 1))) := by rw [joinB_at h]; simp [bt]
 have hl : (bt t.data.toList ++ [10]).length = t.size + 1 := by rw [List.length_append, bt_len]; rfl
 rw [e, ← hl, List.drop_left]
theorem mkL_snoc {ts : List ByteArray} {k : Nat} {t : ByteArray} (h : ts[k]? = some t) : (ts.take k).map mkL ++ [⟨t, false⟩] = (ts.take (k + 1)).map mkL := by
 rw [xAz h, List.map_append]
 rfl
section
variable {P : Program} {ρ : Operand → Value} {d : Option Tmp} {ty : TypeId} {pos : String} {af : Array Edge} {gd : Option (Nat × Bool)} {w : World} {C : Gh} {t t' e : TypeId} {x xl xh xm : Operand}
theorem r_bytesStrO {A : Option Addr} {c n : Nat} {xs : List Int} {s : ByteArray} (hs : P.underlying t = some (.slice e)) (he : P.underlying e = some (.int .u8)) (hd : P.underlying t' = some .string) (h : Sl (kInt .u8) C A c xs) (hA : A.isSome = true) (hxs : xs = bt s.data.toList) (hn : n = xs.length) (hH : Has w C) (hx : ρ x = .slice A n c) :
  (execOp ρ ⟨d, .convert t t' x, ty, pos, af, gd⟩).run P w = .ok (.value (.string s)) w := by
 obtain ⟨a, rfl⟩ := Option.isSome_iff_exists.1 hA
 subst hxs
 exact r_bytesStrA hs he hd h (by rw [hn, bt_len]) hH hx
theorem r_sliceLT {α : Type} {xs : List α} {A : Option Addr} {n c sz : Nat} {l : Int} (hu : P.underlying t = some (.slice e)) (hs : ∀ w, (sizeOf e).run P w = .ok sz w) (hx : ρ x = .slice A xs.length c) (hl : ρ xl = .int .i64 l) (h1 : l = n) (h2 : n ≤ xs.length) :
  (execOp ρ ⟨d, .slice t x (some xl) none none, ty, pos, af, gd⟩).run P w = .ok (.value (.slice (if c = n then A else A.map (·.add (n * sz))) (xs.drop n).length (c - n))) w := by
 subst h1
 rw [r_sliceL hu hs hx hl (by omega) (by omega)]
 simp
end
end Go.Proofs.YtlofomkhiefbmaaGreatDoor

namespace Go.Proofs.YtlofomkhiefbmaaGreatDoor
inductive Ln where
 | fin
 | beg (a : Label)
 | anchor
 | bare
 | text (s : ByteArray)
def txtL : Ln → ByteArray
 | .fin => eEnd
 | .beg a => eBegin ++ labelS a
 | .anchor => eAnchor
 | .bare => eBare
 | .text s => if signed s then (⟨#[64]⟩ : ByteArray) ++ s else s
structure Rs where
 op : List Label
 out : List Item
 ah : Bool
def topL (op : List Label) : Label := (op[op.length - 1]?).getD ⟨0, 0#64⟩
def bareI (x : Item) : Item := ⟨x.id, x.label, x.anchor, ⟨x.line.text, true⟩⟩
def stepL (r : Rs) : Ln → Rs
 | .fin => ⟨r.op.take (r.op.length - 1), r.out, false⟩
 | .beg a => ⟨r.op ++ [a], r.out, false⟩
 | .anchor => ⟨r.op, r.out ++ [⟨(r.out.length : Int) + 1, topL r.op, true, ⟨ByteArray.empty, false⟩⟩], false⟩
 | .bare => ⟨r.op, r.out.take (r.out.length - 1) ++ (r.out.drop (r.out.length - 1)).map bareI, false⟩
 | .text s => ⟨r.op, r.out ++ [⟨(r.out.length : Int) + 1, topL r.op, false, ⟨s, false⟩⟩], true⟩
def okL (lv ct : Int) (r : Rs) : Ln → Prop
 | .fin => 1 < r.op.length
 | .beg a => rightL a ∧ fitsL lv ct a ∧ belowL (topL r.op) a ∧ 0 < r.op.length ∧ r.op.length ≤ 16
 | .anchor => 0 < r.op.length ∧ r.out.length < 400
 | .bare => r.ah = true ∧ ∃ o i a an s, r.out = o ++ [(⟨i, a, an, ⟨s, false⟩⟩ : Item)] ∧ s.size ≠ 0
 | .text s => 0 < r.op.length ∧ r.out.length < 400 ∧ s.size ≤ 200
theorem top_at {op : List Label} (h : 0 < op.length) : op[op.length - 1]? = some (topL op) := by
 have : op[op.length - 1]? = some op[op.length - 1] := List.getElem?_eq_getElem (by omega)
 unfold topL
 rw [this]
 rfl
def okAll (lv ct : Int) (r : Rs) : List Ln → Prop
 | [] => True
 | n :: l => okL lv ct r n ∧ okAll lv ct (stepL r n) l
theorem okAll_app {lv ct : Int} : ∀ (l m : List Ln) (r : Rs), okAll lv ct r (l ++ m) ↔ okAll lv ct r l ∧ okAll lv ct (l.foldl stepL r) m
 | [], m, r => by simp [okAll]
 | n :: l, m, r => by
  simp only [List.cons_append, okAll, List.foldl_cons, okAll_app l m, and_assoc]
theorem okAll_at {lv ct : Int} {r : Rs} {l : List Ln} {k : Nat} {n : Ln} (h : okAll lv ct r l) (hn : l[k]? = some n) : okL lv ct ((l.take k).foldl stepL r) n := by
 obtain ⟨h1, h2⟩ := List.getElem?_eq_some_iff.1 hn
 rw [← List.take_append_drop k l, List.drop_eq_getElem_cons h1, h2] at h
 exact ((okAll_app _ _ _).1 h).2.1
def finsL (n : Nat) : List Ln := List.replicate n .fin
abbrev Pl := List Label × List Ln
def topT (p : Pl) (a : Label) : Pl := if p.1[p.1.length - 1]? = some a then p else (p.1 ++ [a], p.2 ++ [.beg a])
def cutT (p : Pl) (n : Nat) : Pl := (p.1.take n, p.2 ++ finsL (p.1.length - n))
def regT (p : Pl) (a : Label) : Pl := topT (cutT p (keepL a p.1 p.1.length)) a
def bodyT (x : Item) : List Ln := (if x.anchor then [.anchor] else [.text x.line.text]) ++ (if x.line.bare then [.bare] else [])
def itemT (p : Pl) (x : Item) : Pl := ((regT p x.label).1, (regT p x.label).2 ++ bodyT x)
def itemsT (floor : Label) (l : List Item) : Pl := l.foldl itemT ([floor], [])
def printT (floor : Label) (l : List Item) : List Ln := (cutT (itemsT floor l) 1).2
theorem joinB_app (a b : List ByteArray) : joinB (a ++ b) = joinB a ++ joinB b := by simp [joinB]
theorem joinB_one (t : ByteArray) : joinB [t] = (lineS t).data.toList := by
 unfold lineS
 rw [app_list]
 simp [joinB]
def Same2 (p : Pr) (q : Pl) : Prop := p.1 = q.1 ∧ p.2.data.toList = joinB (q.2.map txtL)
theorem same_add {s : ByteArray} {l : List Ln} (h : s.data.toList = joinB (l.map txtL)) {t : ByteArray} {n : Ln} (ht : t = txtL n) : (s ++ lineS t).data.toList = joinB ((l ++ [n]).map txtL) := by
 subst ht
 rw [app_list, List.map_append, joinB_app, h]
 congr 1
 exact (joinB_one _).symm
theorem same_top {p : Pr} {q : Pl} (h : Same2 p q) (a : Label) : Same2 (topS p a) (topT q a) := by
 obtain ⟨h1, h2⟩ := h
 unfold topS topT
 rw [h1]
 split
 ·exact ⟨h1, h2⟩
 ·exact ⟨rfl, same_add h2 rfl⟩
theorem ends_bytes : ∀ n, (endsS n).data.toList = joinB ((finsL n).map txtL)
 | 0 => rfl
 | n + 1 => by
  have h : finsL (n + 1) = finsL n ++ [.fin] := List.replicate_succ' ..
  rw [h]
  exact same_add (ends_bytes n) rfl
theorem same_cut {p : Pr} {q : Pl} (h : Same2 p q) (n : Nat) : Same2 (cutS p n) (cutT q n) := by
 obtain ⟨h1, h2⟩ := h
 unfold cutS cutT
 rw [h1]
 refine ⟨rfl, ?_⟩
 show (p.2 ++ endsS _).data.toList = joinB ((q.2 ++ finsL _).map txtL)
 rw [app_list, List.map_append, joinB_app, h2, ends_bytes]
theorem same_reg {p : Pr} {q : Pl} (h : Same2 p q) (a : Label) : Same2 (regS p a) (regT q a) := by
 have e : keepL a p.1 p.1.length = keepL a q.1 q.1.length := by rw [h.1]
 unfold regS regT
 rw [e]
 exact same_top (same_cut h _) a
theorem same_body {s : ByteArray} {l : List Ln} (h : s.data.toList = joinB (l.map txtL)) (x : Item) : (bodyS s x).data.toList = joinB ((l ++ bodyT x).map txtL) := by
 have hk : ∀ n : Ln, txtS x = txtL n → bodyT x = [n] ++ (if x.line.bare then [.bare] else []) → (bodyS s x).data.toList = joinB ((l ++ bodyT x).map txtL) := by
  intro n hn hb
  rw [hb]
  by_cases hx : x.line.bare = true
  ·rw [bodyS_b hx, if_pos hx, ← List.append_assoc]
   exact same_add (same_add h hn) (n := .bare) rfl
  ·have hx' : x.line.bare = false := by simpa using hx
   rw [bodyS_n hx', if_neg hx, List.append_nil]
   exact same_add h hn
 by_cases ha : x.anchor = true
 ·exact hk .anchor (txtS_a ha) (by unfold bodyT; rw [if_pos ha])
 ·refine hk (.text x.line.text) ?_ (by unfold bodyT; rw [if_neg ha])
  unfold txtS
  rw [if_neg ha]
  rfl
theorem same_item {p : Pr} {q : Pl} (h : Same2 p q) (x : Item) : Same2 (itemS p x) (itemT q x) :=
 let ⟨h1, h2⟩ := same_reg h x.label
 ⟨h1, same_body h2 x⟩
theorem same_items (floor : Label) (l : List Item) : Same2 (itemsS floor l) (itemsT floor l) := by
 unfold itemsS itemsT
 have : ∀ (l : List Item) (p : Pr) (q : Pl), Same2 p q → Same2 (l.foldl itemS p) (l.foldl itemT q) := by
  intro l
  induction l with
  | nil => exact fun _ _ h => h
  | cons x l ih => exact fun p q h => ih _ _ (same_item h x)
 exact this l _ _ ⟨rfl, rfl⟩
theorem print_bytes (floor : Label) (l : List Item) : (printS floor l).data.toList = joinB ((printT floor l).map txtL) := (same_cut (same_items floor l) 1).2
end Go.Proofs.YtlofomkhiefbmaaGreatDoor

namespace Go.Proofs.YtlofomkhiefbmaaGreatDoor
theorem keepL_prop {a : Label} {op : List Label} : ∀ n, 0 < n → n ≤ op.length → keepL a op n = 1 ∨ ∃ t, op[keepL a op n - 1]? = some t ∧ staysL a t (keepL a op n)
 | 0, h, _ => absurd h (by omega)
 | n + 1, _, hn => by
  by_cases h0 : n = 0
  ·left; subst h0; rfl
  ·have ht : op[n]? = some op[n] := List.getElem?_eq_getElem (by omega)
   by_cases hs : staysL a op[n] (n + 1)
   ·right
    rw [keepL_stay (by simp) hs]
    exact ⟨_, by simp, hs⟩
   ·rw [keepL_pop (by omega) (by simp) hs]
    exact keepL_prop n (by omega) (by omega)
def numF (i : Nat) : List Item → List Item
 | [] => []
 | x :: l => ⟨(i : Int) + 1, x.label, x.anchor, x.line⟩ :: numF (i + 1) l
theorem numF_len : ∀ (l : List Item) (i : Nat), (numF i l).length = l.length
 | [], _ => rfl
 | x :: l, i => by simp [numF, numF_len l]
theorem numF_app : ∀ (l : List Item) (i : Nat) (x : Item), numF i (l ++ [x]) = numF i l ++ [⟨((i + l.length : Nat) : Int) + 1, x.label, x.anchor, x.line⟩]
 | [], i, x => by simp [numF]
 | y :: l, i, x => by
  simp only [List.cons_append, numF, numF_app l (i + 1) x, List.length_cons]
  congr 4
  omega
theorem fins_fold {lv ct : Int} {out : List Item} : ∀ (n : Nat) (op : List Label) (ah : Bool), n < op.length → okAll lv ct ⟨op, out, ah⟩ (finsL n) ∧ ((finsL n).foldl stepL ⟨op, out, ah⟩).op = op.take (op.length - n) ∧ ((finsL n).foldl stepL ⟨op, out, ah⟩).out = out
 | 0, op, ah, _ => by simp [finsL, okAll]
 | n + 1, op, ah, h => by
  have hl : (op.take (op.length - 1)).length = op.length - 1 := by rw [List.length_take]; omega
  obtain ⟨h1, h2, h3⟩ := fins_fold (lv := lv) (ct := ct) (out := out) n (op.take (op.length - 1)) false (by omega)
  have e : finsL (n + 1) = .fin :: finsL n := rfl
  rw [e]
  refine ⟨⟨by show 1 < op.length; omega, h1⟩, ?_, h3⟩
  rw [List.foldl_cons]
  show ((finsL n).foldl stepL ⟨op.take (op.length - 1), out, false⟩).op = _
  rw [h2, hl, List.take_take]
  congr 1
  omega
theorem topL_eq {op : List Label} {t : Label} (h : op[op.length - 1]? = some t) : topL op = t := by unfold topL; rw [h]; rfl
theorem topL_snoc (op : List Label) (a : Label) : topL (op ++ [a]) = a := topL_eq (by simp)
theorem reg_read {lv ct : Int} {floor a : Label} {op : List Label} {out : List Item} {ah : Bool} (L : List Ln) (h0 : 0 < op.length) (hf : op[0]? = some floor) (hle : op.length ≤ 17) (hr : rightL a) (hfit : fitsL lv ct a) (hb : belowL floor a) :
  ∃ M, (regT (op, L) a).2 = L ++ M ∧ okAll lv ct ⟨op, out, ah⟩ M ∧ (M.foldl stepL ⟨op, out, ah⟩).op = (regT (op, L) a).1 ∧ (M.foldl stepL ⟨op, out, ah⟩).out = out ∧
   (regT (op, L) a).1[0]? = some floor ∧ 0 < (regT (op, L) a).1.length ∧ (regT (op, L) a).1.length ≤ 17 ∧ topL (regT (op, L) a).1 = a := by
 obtain ⟨k, hk⟩ : ∃ k, keepL a op op.length = k := ⟨_, rfl⟩
 have hk1 := keepL_le a op op.length
 have hk0 := keepL_pos a op op.length h0
 have hkp := keepL_prop (a := a) (op := op) op.length h0 (Nat.le_refl _)
 rw [hk] at hk1 hk0 hkp
 obtain ⟨f1, f2, f3⟩ := fins_fold (lv := lv) (ct := ct) (out := out) (op.length - k) op ah (by omega)
 rw [show op.length - (op.length - k) = k by omega] at f2
 have hl : (op.take k).length = k := by rw [List.length_take]; omega
 have hf' : (op.take k)[0]? = some floor := by rw [List.getElem?_take_of_lt (by omega)]; exact hf
 have hat : (op.take k)[(op.take k).length - 1]? = op[k - 1]? := by rw [hl, List.getElem?_take_of_lt (by omega)]
 have hcut : cutT (op, L) k = (op.take k, L ++ finsL (op.length - k)) := rfl
 have hreg : regT (op, L) a = topT (op.take k, L ++ finsL (op.length - k)) a := by
  show topT (cutT (op, L) (keepL a op op.length)) a = _
  rw [hk, hcut]
 rw [hreg]
 unfold topT
 split
 ·rename_i ht
  exact ⟨finsL (op.length - k), rfl, f1, f2, f3, hf', by show 0 < (op.take k).length; omega, by show (op.take k).length ≤ 17; omega, topL_eq ht⟩
 ·rename_i ht
  have ht' : ¬ op[k - 1]? = some a := by rw [← hat]; exact ht
  have hbel : belowL (topL (op.take k)) a ∧ k ≤ 16 := by
   rcases hkp with rfl | ⟨t, h1, h2, h3⟩
   ·rw [topL_eq (t := floor) (by rw [hl]; exact hf')]
    exact ⟨hb, by omega⟩
   ·rw [topL_eq (t := t) (by rw [hat]; exact h1)]
    refine ⟨h2, ?_⟩
    rcases h3 with rfl | h3
    ·exact absurd h1 ht'
    ·exact h3
  refine ⟨finsL (op.length - k) ++ [.beg a], by rw [List.append_assoc], ?_, ?_, ?_, ?_, ?_, ?_, topL_snoc _ _⟩
  ·refine (okAll_app _ _ _).2 ⟨f1, ⟨hr, hfit, ?_, ?_, ?_⟩, trivial⟩
   ·rw [f2]; exact hbel.1
   ·rw [f2, hl]; exact hk0
   ·rw [f2, hl]; exact hbel.2
  ·rw [List.foldl_append]
   show ((finsL (op.length - k)).foldl stepL ⟨op, out, ah⟩).op ++ [a] = _
   rw [f2]
  ·rw [List.foldl_append]
   exact f3
  ·show (op.take k ++ [a])[0]? = _
   rw [List.getElem?_append_left (by omega)]
   exact hf'
  ·show 0 < (op.take k ++ [a]).length
   simp
  ·show (op.take k ++ [a]).length ≤ 17
   rw [List.length_append, hl]
   have := hbel.2
   simp
   omega
theorem body_read {lv ct : Int} {floor : Label} {op : List Label} {out : List Item} {ah : Bool} {x : Item} (h0 : 0 < op.length) (ht : topL op = x.label) (hn : out.length < 400) (ok : okX floor x) :
  okAll lv ct ⟨op, out, ah⟩ (bodyT x) ∧ ((bodyT x).foldl stepL ⟨op, out, ah⟩).op = op ∧ ((bodyT x).foldl stepL ⟨op, out, ah⟩).out = out ++ [⟨(out.length : Int) + 1, x.label, x.anchor, x.line⟩] := by
 obtain ⟨i, la, an, s, b⟩ := x
 have ha := ok.anchor
 have hb := ok.bare
 have hz := ok.size
 simp only at ha hb hz ht
 unfold bodyT
 cases an with
 | true =>
  obtain ⟨h1, h2⟩ := ha rfl
  subst h2
  obtain rfl : s = ByteArray.empty := size0.1 h1
  exact ⟨⟨⟨h0, hn⟩, trivial⟩, rfl, by rw [← ht]; rfl⟩
 | false =>
  cases b with
  | false => exact ⟨⟨⟨h0, hn, hz⟩, trivial⟩, rfl, by rw [← ht]; rfl⟩
  | true =>
   have hs : s.size ≠ 0 := fun h => hb ⟨rfl, h⟩
   refine ⟨⟨⟨h0, hn, hz⟩, ⟨rfl, out, _, _, _, s, rfl, hs⟩, trivial⟩, rfl, ?_⟩
   show (out ++ [_]).take ((out ++ [_]).length - 1) ++ ((out ++ [_]).drop ((out ++ [_]).length - 1)).map bareI = _
   rw [List.length_append, show out.length + [(⟨(out.length : Int) + 1, topL op, false, ⟨s, false⟩⟩ : Item)].length - 1 = out.length by simp, List.take_left, List.drop_left, ht]
   rfl
theorem itemsT_snoc {floor : Label} {l : List Item} {k : Nat} {x : Item} (h : l[k]? = some x) : itemsT floor (l.take (k + 1)) = itemT (itemsT floor (l.take k)) x := by
 unfold itemsT
 rw [xAz h, List.foldl_append]
 rfl
theorem items_read {lv ct : Int} {floor : Label} {l : List Item} (hok : okI floor l) (hfit : ∀ x ∈ l, fitsL lv ct x.label) (hn : l.length ≤ 60) : ∀ k, k ≤ l.length →
  okAll lv ct ⟨[floor], [], false⟩ (itemsT floor (l.take k)).2 ∧ ((itemsT floor (l.take k)).2.foldl stepL ⟨[floor], [], false⟩).op = (itemsT floor (l.take k)).1 ∧ ((itemsT floor (l.take k)).2.foldl stepL ⟨[floor], [], false⟩).out = numF 0 (l.take k) ∧
   (itemsT floor (l.take k)).1[0]? = some floor ∧ 0 < (itemsT floor (l.take k)).1.length ∧ (itemsT floor (l.take k)).1.length ≤ 17
 | 0, _ => by
  rw [List.take_zero]
  exact ⟨trivial, rfl, rfl, rfl, Nat.one_pos, by show 1 ≤ 17; omega⟩
 | k + 1, hk => by
  obtain ⟨h1, h2, h3, h4, h5, h6⟩ := items_read hok hfit hn k (by omega)
  have hx : l[k]? = some l[k] := List.getElem?_eq_getElem (by omega)
  generalize l[k] = x at hx
  have ox := hok x (List.mem_of_getElem? hx)
  have fx := hfit x (List.mem_of_getElem? hx)
  rw [itemsT_snoc hx]
  generalize itemsT floor (l.take k) = q at *
  obtain ⟨op, L⟩ := q
  simp only at h1 h2 h3 h4 h5 h6
  generalize hr : L.foldl stepL ⟨[floor], [], false⟩ = r at h2 h3
  obtain ⟨rop, rout, rah⟩ := r
  simp only at h2 h3
  subst h2 h3
  obtain ⟨M, m1, m2, m3, m4, m5, m6, m7, m8⟩ := reg_read (lv := lv) (ct := ct) (out := numF 0 (l.take k)) (ah := rah) L h5 h4 h6 ox.right fx ox.below
  generalize hr2 : M.foldl stepL ⟨rop, numF 0 (l.take k), rah⟩ = r2 at m3 m4
  obtain ⟨op2, out2, ah2⟩ := r2
  simp only at m3 m4
  subst m4
  have hlen : (numF 0 (l.take k)).length = k := by rw [numF_len, List.length_take]; omega
  obtain ⟨b1, b2, b3⟩ := body_read (lv := lv) (ct := ct) (op := op2) (out := numF 0 (l.take k)) (ah := ah2) (x := x) (by rw [m3]; exact m6) (by rw [m3]; exact m8) (by omega) ox
  have e : (itemT (rop, L) x).2 = (L ++ M) ++ bodyT x := by show (regT (rop, L) x.label).2 ++ bodyT x = _; rw [m1]
  have hf : ((L ++ M) ++ bodyT x).foldl stepL ⟨[floor], [], false⟩ = (bodyT x).foldl stepL ⟨op2, numF 0 (l.take k), ah2⟩ := by rw [List.foldl_append, List.foldl_append, hr, hr2]
  refine ⟨?_, ?_, ?_, m5, m6, m7⟩
  ·rw [e]
   refine (okAll_app _ _ _).2 ⟨(okAll_app _ _ _).2 ⟨h1, by rw [hr]; exact m2⟩, ?_⟩
   rw [List.foldl_append, hr, hr2]
   exact b1
  ·rw [e, hf, b2, m3]
   rfl
  ·rw [e, hf, b3, xAz hx, numF_app, hlen]
   simp
   omega
theorem print_read {lv ct : Int} {floor : Label} {l : List Item} (hok : okI floor l) (hfit : ∀ x ∈ l, fitsL lv ct x.label) (hn : l.length ≤ 60) :
  okAll lv ct ⟨[floor], [], false⟩ (printT floor l) ∧ ((printT floor l).foldl stepL ⟨[floor], [], false⟩).op = [floor] ∧ ((printT floor l).foldl stepL ⟨[floor], [], false⟩).out = numF 0 l := by
 obtain ⟨h1, h2, h3, h4, h5, h6⟩ := items_read (lv := lv) (ct := ct) hok hfit hn l.length (Nat.le_refl _)
 rw [List.take_length] at h1 h2 h3 h4 h5 h6
 unfold printT cutT
 generalize itemsT floor l = q at *
 obtain ⟨op, L⟩ := q
 simp only at h1 h2 h3 h4 h5 h6 ⊢
 generalize hr : L.foldl stepL ⟨[floor], [], false⟩ = r at h2 h3
 obtain ⟨rop, rout, rah⟩ := r
 simp only at h2 h3
 subst h2 h3
 obtain ⟨f1, f2, f3⟩ := fins_fold (lv := lv) (ct := ct) (out := numF 0 l) (rop.length - 1) rop rah (by omega)
 refine ⟨(okAll_app _ _ _).2 ⟨h1, by rw [hr]; exact f1⟩, ?_, ?_⟩
 ·rw [List.foldl_append, hr, f2, show rop.length - (rop.length - 1) = 1 by omega]
  cases rop with
  | nil => simp at h5
  | cons t r =>
   simp at h4
   subst h4
   rfl
 ·rw [List.foldl_append, hr, f3]
theorem fold_num : ∀ (l : List Item) (i : Nat) (p : Pr), (numF i l).foldl itemS p = l.foldl itemS p
 | [], _, _ => rfl
 | x :: l, i, p => by
  rw [numF, List.foldl_cons, List.foldl_cons, fold_num l (i + 1)]
  rfl
theorem print_num (floor : Label) (l : List Item) : printS floor (numF 0 l) = printS floor l := by
 unfold printS itemsS
 rw [fold_num]
theorem numF_mem : ∀ (l : List Item) (i : Nat) (y : Item), y ∈ numF i l → ∃ x ∈ l, y.label = x.label ∧ y.anchor = x.anchor ∧ y.line = x.line
 | [], _, _, h => by simp [numF] at h
 | x :: l, i, y, h => by
  rw [numF, List.mem_cons] at h
  rcases h with rfl | h
  ·exact ⟨x, List.mem_cons_self .., rfl, rfl, rfl⟩
  ·obtain ⟨z, h1, h2⟩ := numF_mem l (i + 1) y h
   exact ⟨z, List.mem_cons_of_mem _ h1, h2⟩
theorem okI_num {floor : Label} {l : List Item} (h : okI floor l) : okI floor (numF 0 l) := fun y hy => by
 obtain ⟨x, hx, h1, h2, h3⟩ := numF_mem l 0 y hy
 obtain ⟨a, b, c, d, e, f⟩ := h x hx
 exact ⟨h3 ▸ a, h1 ▸ b, h1 ▸ c, h3 ▸ d, h3 ▸ e, by rw [h2, h3]; exact f⟩
theorem cut_num (q : Label) : ∀ (l : List Item) (i : Nat), (cutL (numF i l) q).map (fun x => (x.anchor, x.line)) = (cutL l q).map fun x => (x.anchor, x.line)
 | [], _ => rfl
 | x :: l, i => by
  have h := cut_num q l (i + 1)
  unfold cutL at *
  rw [numF, List.filter_cons, List.filter_cons]
  by_cases hb : belowL x.label q
  ·simp only [hb, decide_true, if_true, List.map_cons, h]
  ·simp only [hb, decide_false, Bool.false_eq_true, if_false, h]
theorem cut_meet (l : List Item) (o q : Label) : cutL (cutL l o) q = cutL l (meetL o q) := by
 unfold cutL
 rw [List.filter_filter]
 congr 1
 funext x
 by_cases h1 : belowL x.label o <;> by_cases h2 : belowL x.label q <;> simp [h1, h2, belowL_meet]
theorem view_num (hidden : ByteArray) (l : List Item) (o q : Label) : viewS hidden (cutL (numF 0 (cutL l o)) q) = viewS hidden (cutL l (meetL o q)) := by
 rw [← cut_meet]
 exact viewS_congr hidden (cut_num q _ 0)
theorem nl_app {s t : ByteArray} : nlS (s ++ t) ↔ nlS s ∨ nlS t := by unfold nlS; rw [app_list, List.mem_append]
theorem comma_nl : ∀ l : List Int, (∀ x ∈ l, 0 ≤ x ∧ x < 100) → ¬ nlS (commaS l)
 | [], _ => by decide
 | c :: l, h => by
  have hc := h c (List.mem_cons_self ..)
  have h1 := comma_nl l (fun x hx => h x (List.mem_cons_of_mem _ hx))
  have h2 : ¬ nlS (decS c) := decS_not hc.1 hc.2 (b := 10) (.inl (by decide))
  have h3 : ¬ nlS (⟨#[44]⟩ : ByteArray) := by decide
  show ¬ nlS ((⟨#[44]⟩ ++ decS c) ++ commaS l)
  rw [nl_app, nl_app]
  rintro ((h | h) | h)
  ·exact h3 h
  ·exact h2 h
  ·exact h1 h
theorem label_nl {a : Label} (hr : rightL a) : ¬ nlS (labelS a) := by
 have hl : ¬ nlS (decS a.level) := decS_not hr.1 (by have := hr.2; omega) (b := 10) (.inl (by decide))
 have hm := fun x (hx : x ∈ catsI a.cats 64) => catsI_mem hx
 cases hc : catsI a.cats 64 with
 | nil => rw [labelS_nil hc]; exact hl
 | cons c r =>
  have hc1 := hm c (hc ▸ List.mem_cons_self ..)
  have h2 : ¬ nlS (decS c) := decS_not hc1.1 (by omega) (b := 10) (.inl (by decide))
  have h3 : ¬ nlS (⟨#[58]⟩ : ByteArray) := by decide
  have h4 := comma_nl r (fun x hx => by have := hm x (hc ▸ List.mem_cons_of_mem _ hx); omega)
  rw [labelS_cons hc]
  show ¬ nlS (decS a.level ++ (⟨#[58]⟩ ++ (decS c ++ commaS r)))
  rw [nl_app, nl_app, nl_app]
  rintro (h | h | h | h)
  ·exact hl h
  ·exact h3 h
  ·exact h2 h
  ·exact h4 h
theorem begin_nl {a : Label} (hr : rightL a) : ¬ nlS (txtL (.beg a)) := by
 show ¬ nlS (eBegin ++ labelS a)
 rw [nl_app]
 rintro (h | h)
 ·exact absurd h (by decide)
 ·exact label_nl hr h
theorem text_nl {s : ByteArray} (hs : ¬ nlS s) : ¬ nlS (txtL (.text s)) := by
 show ¬ nlS (if signed s then (⟨#[64]⟩ : ByteArray) ++ s else s)
 split
 ·rw [nl_app]
  rintro (h | h)
  ·exact absurd h (by decide)
  ·exact hs h
 ·exact hs
def okN (n : Ln) : Prop := ¬ nlS (txtL n)
theorem item_nl {floor : Label} {q : Pl} {x : Item} (h : ∀ n ∈ q.2, okN n) (ok : okX floor x) : ∀ n ∈ (itemT q x).2, okN n := by
 have hf : ∀ k, ∀ n ∈ finsL k, okN n := fun k n hn => by
  rw [List.eq_of_mem_replicate hn]
  show ¬ nlS eEnd
  decide
 have hc : ∀ n ∈ (cutT q (keepL x.label q.1 q.1.length)).2, okN n := fun n hn => (List.mem_append.1 hn).elim (h n) (hf _ n)
 have hr : ∀ n ∈ (regT q x.label).2, okN n := by
  unfold regT topT
  split
  ·exact hc
  ·intro n hn
   rcases List.mem_append.1 hn with hn | hn
   ·exact hc n hn
   ·rw [List.mem_singleton.1 hn]
    exact begin_nl ok.right
 intro n hn
 rcases List.mem_append.1 hn with hn | hn
 ·exact hr n hn
 ·unfold bodyT at hn
  rcases List.mem_append.1 hn with hn | hn
  ·split at hn
   ·rw [List.mem_singleton.1 hn]
    show ¬ nlS eAnchor
    decide
   ·rw [List.mem_singleton.1 hn]
    exact text_nl ok.nl
  ·split at hn
   ·rw [List.mem_singleton.1 hn]
    show ¬ nlS eBare
    decide
   ·cases hn
end Go.Proofs.YtlofomkhiefbmaaGreatDoor

namespace Go.Proofs.YtlofomkhiefbmaaGreatDoor
open Go.RowKit
theorem run_loadVar1 {P : Program} {t : TypeId} {a : Addr} {v : Value} {w : World} (ha : ∀ w, (isAgg t).run P w = .ok false w) (hc : w.cell? a = some v) : (loadVar t a).run P w = .ok v w := by
 simp [loadVar, ha, hc]
theorem results_cells3 {P : Program} {fn : Func} {p q r : Tmp} {tp tq tr : TypeId} {tmps : Array Value} {gp gq gr : Addr} {vp vq vr : Value} {w : World} (h : fn.results = #[.cell p tp, .cell q tq, .cell r tr])
  (ap : ∀ w, (isAgg tp).run P w = .ok false w) (aq : ∀ w, (isAgg tq).run P w = .ok false w) (ar : ∀ w, (isAgg tr).run P w = .ok false w)
  (hp : tmps.getD p undef = .pointer (some gp)) (hq : tmps.getD q undef = .pointer (some gq)) (hr : tmps.getD r undef = .pointer (some gr))
  (cp : w.cell? gp = some vp) (cq : w.cell? gq = some vq) (cr : w.cell? gr = some vr) : (results fn tmps).run P w = .ok (.tuple #[vp, vq, vr]) w := by
 rw [Array.getD_eq_getD_getElem?] at hp hq hr
 simp only [results, h]
 simp [Sem.run_bind, hp, hq, hr, asAddr, run_loadVar1 ap cp, run_loadVar1 aq cq, run_loadVar1 ar cr]
theorem r_makeFunc4 {P : Program} {ρ : Operand → Value} {d : Option Tmp} {ty : TypeId} {pos : String} {af : Array Edge} {gd : Option (Nat × Bool)} {w : World} {a0 a1 a2 a3 : Operand} {v0 v1 v2 v3 : Value} {fn : Fn} (h0 : ρ a0 = v0) (h1 : ρ a1 = v1) (h2 : ρ a2 = v2) (h3 : ρ a3 = v3) :
  (execOp ρ ⟨d, .makeFunc fn #[] #[a0, a1, a2, a3], ty, pos, af, gd⟩).run P w = .ok (.value (.func fn #[] #[v0, v1, v2, v3])) w := by simp [execOp, Instr.makeFunc, h0, h1, h2, h3]
theorem rowR_items (C : Gh) (xs : List Item) : RowR kItem C xs (xs.map itemRow).flatten := by
 induction xs with
 | nil => exact .nil
 | cons x xs ih => exact .cons (cs := itemRow x) rfl ih
def foldK (floor : Label) (ns : List Ln) (k : Nat) : Rs := (ns.take k).foldl stepL ⟨[floor], [], false⟩
theorem foldK_succ {floor : Label} {ns : List Ln} {k : Nat} {n : Ln} (h : ns[k]? = some n) : foldK floor ns (k + 1) = stepL (foldK floor ns k) n := by
 unfold foldK
 rw [xAz h, List.foldl_append]
 rfl
theorem foldK_all {floor : Label} {ns : List Ln} {k : Nat} (h : ns.length ≤ k) : foldK floor ns k = ns.foldl stepL ⟨[floor], [], false⟩ := by
 unfold foldK
 rw [List.take_of_length_le h]
theorem line_at {ns : List Ln} {k : Nat} {x : Line} (h : ((ns.map txtL).map mkL)[k]? = some x) : ∃ n, ns[k]? = some n ∧ x = ⟨txtL n, false⟩ := by
 rw [List.map_map, List.getElem?_map, Option.map_eq_some_iff] at h
 obtain ⟨n, h1, h2⟩ := h
 exact ⟨n, h1, h2.symm⟩
theorem cutT_len {p : Pl} {n : Nat} (h : n ≤ p.1.length) : (cutT p n).2.length + (cutT p n).1.length = p.2.length + p.1.length := by
 simp only [cutT, finsL, List.length_append, List.length_replicate, List.length_take]
 omega
theorem topT_len (p : Pl) (a : Label) : (topT p a).2.length + (topT p a).1.length ≤ p.2.length + p.1.length + 2 := by
 unfold topT
 split
 ·omega
 ·simp only [List.length_append, List.length_cons, List.length_nil]
  omega
theorem bodyT_len (x : Item) : (bodyT x).length ≤ 2 := by
 unfold bodyT
 split <;> split <;> simp
theorem itemT_len (p : Pl) (x : Item) : (itemT p x).2.length + (itemT p x).1.length ≤ p.2.length + p.1.length + 4 := by
 have h1 := topT_len (cutT p (keepL x.label p.1 p.1.length)) x.label
 have h2 := cutT_len (p := p) (keepL_le x.label p.1 p.1.length)
 have h3 := bodyT_len x
 simp only [itemT, regT, List.length_append]
 omega
theorem itemsF_len : ∀ (l : List Item) (p : Pl), (l.foldl itemT p).2.length + (l.foldl itemT p).1.length ≤ p.2.length + p.1.length + 4 * l.length
 | [], p => by simp
 | x :: l, p => by
  have h1 := itemsF_len l (itemT p x)
  have h2 := itemT_len p x
  simp only [List.foldl_cons, List.length_cons]
  omega
theorem printT_len (floor : Label) (l : List Item) : (printT floor l).length ≤ 4 * l.length + 1 := by
 have h := itemsF_len l ([floor], [])
 have h2 : (itemsT floor l).2.length + (itemsT floor l).1.length ≤ 0 + 1 + 4 * l.length := h
 simp only [printT, cutT, finsL, List.length_append, List.length_replicate]
 omega
theorem itemsF_nl {floor : Label} : ∀ (l : List Item) (p : Pl), okI floor l → (∀ n ∈ p.2, okN n) → ∀ n ∈ (l.foldl itemT p).2, okN n
 | [], p, _, h => h
 | x :: l, p, hok, h => by
  rw [List.foldl_cons]
  exact itemsF_nl l _ (fun y hy => hok y (List.mem_cons_of_mem _ hy)) (item_nl h (hok x (List.mem_cons_self ..)))
theorem printT_nl {floor : Label} {l : List Item} (hok : okI floor l) : ∀ t ∈ (printT floor l).map txtL, ¬ nlS t := by
 intro t ht
 obtain ⟨n, hn, rfl⟩ := List.mem_map.1 ht
 rcases List.mem_append.1 (show n ∈ (itemsT floor l).2 ++ finsL _ from hn) with h | h
 ·exact itemsF_nl l ([floor], []) hok (fun n h => by cases h) n h
 ·rw [List.eq_of_mem_replicate h]
  show ¬ nlS eEnd
  decide
theorem print_len {floor : Label} {l : List Item} (hok : okI floor l) : ∀ k, k ≤ l.length → (itemsS floor (l.take k)).2.size + 7 * (itemsS floor (l.take k)).1.length ≤ 421 * k + 7
 | 0, _ => by rw [List.take_zero]; exact Nat.le_refl _
 | k + 1, hk => by
  have h := print_len hok k (by omega)
  have hx : l[k]? = some l[k] := List.getElem?_eq_getElem (by omega)
  have h2 := itemS_size (itemsS floor (l.take k)) (hok _ (List.mem_of_getElem? hx)).size
  rw [itemsS_snoc hx]
  omega
theorem printS_len {floor : Label} {l : List Item} (hok : okI floor l) (hn : l.length ≤ 60) : (printS floor l).size ≤ 32768 := by
 have h := print_len hok l.length (Nat.le_refl _)
 rw [List.take_length] at h
 unfold printS cutS
 simp only [ByteArray.size_append, endsS_size]
 omega
end Go.Proofs.YtlofomkhiefbmaaGreatDoor

namespace Go.Proofs.YtlofomkhiefbmaaGreatDoor
open Go.RowKit
theorem r_bytesStrS {P : Program} {ρ : Operand → Value} {d : Option Tmp} {ty : TypeId} {pos : String} {af : Array Edge} {gd : Option (Nat × Bool)} {w : World} {C : Gh} {t t' e : TypeId} {x : Operand} {A : Option Addr} {c n : Nat} {s : ByteArray} (hs : P.underlying t = some (.slice e)) (he : P.underlying e = some (.int .u8)) (hd : P.underlying t' = some .string) (h : Sl (kInt .u8) C A c (bS s)) (hn : n = (bS s).length) (hH : Has w C) (hx : ρ x = .slice A n c) :
  (execOp ρ ⟨d, .convert t t' x, ty, pos, af, gd⟩).run P w = .ok (.value (.string s)) w := by
 cases A with
 | some a => exact r_bytesStrA (l := s.data.toList) hs he hd h (by rw [hn, bS_len]; rfl) hH hx
 | none =>
  have h0 : (bS s).length = 0 := by
   rcases Nat.eq_zero_or_pos (bS s).length with h0 | h0
   ·exact h0
   ·cases h.isSome h0
  obtain rfl : s = ByteArray.empty := size0.1 (by rw [← bS_len]; exact h0)
  have hr := run_convert_bytes_nil (P := P) (w := w) t e hs he n c t' hd
  simp only [execOp, hx, Sem.run_bind, hr, Result.andThen_ok, Sem.run_pure]
section
variable {P : Program} {ρ : Operand → Value} {d : Option Tmp} {ty : TypeId} {pos : String} {af : Array Edge} {gd : Option (Nat × Bool)} {w : World} {t t' : TypeId} {x y : Operand} {a b : Bool}
theorem equalIn_bool {n : Nat} (hu : ∀ w, (underlying t).run P w = .ok .bool w) : (Op.equalIn (n + 1) t (.bool a) (.bool b)).run P w = .ok (a == b) w := by
 simp [Op.equalIn, hu]
theorem r_neqBool (hu : ∀ w, (underlying t).run P w = .ok .bool w) (hx : ρ x = .bool a) (hy : ρ y = .bool b) : (execOp ρ ⟨d, .binOp .neq t x y t', ty, pos, af, gd⟩).run P w = .ok (.value (.bool (!decide (a = b)))) w := by
 have hd : (a == b) = decide (a = b) := by cases a <;> cases b <;> rfl
 simp only [execOp, hx, hy, eqGuard, binOp, equal_at, Sem.run_bind, equalIn_bool hu]
 simp [hd]
end
theorem numF_at : ∀ {l : List Item} {i k : Nat} {x : Item}, (numF i l)[k]? = some x → ∃ y, l[k]? = some y ∧ x = ⟨((i + k : Nat) : Int) + 1, y.label, y.anchor, y.line⟩
 | [], i, k, x, h => by simp [numF] at h
 | z :: l, i, 0, x, h => by
  simp [numF] at h
  exact ⟨z, rfl, h.symm⟩
 | z :: l, i, k + 1, x, h => by
  have h' : (numF (i + 1) l)[k]? = some x := by simpa [numF] using h
  obtain ⟨y, h1, h2⟩ := numF_at h'
  refine ⟨y, by simpa using h1, ?_⟩
  rw [h2, show i + 1 + k = i + (k + 1) by omega]
theorem num_at {l : List Item} {k : Nat} {x y : Item} (h : (numF 0 l)[k]? = some x) (hy : l[k]? = some y) : x.id = (k : Int) + 1 ∧ x.label = y.label ∧ x.anchor = y.anchor ∧ x.line = y.line := by
 obtain ⟨z, h1, h2⟩ := numF_at h
 rw [hy] at h1
 cases h1
 subst h2
 refine ⟨?_, rfl, rfl, rfl⟩
 show (((0 + k : Nat) : Int)) + 1 = _
 omega
theorem num_id {l : List Item} {k : Nat} {x : Item} (h : (numF 0 l)[k]? = some x) : x.id = (k : Int) + 1 := by
 obtain ⟨z, h1, h2⟩ := numF_at h
 subst h2
 show (((0 + k : Nat) : Int)) + 1 = _
 omega
end Go.Proofs.YtlofomkhiefbmaaGreatDoor

namespace Go.Proofs.YtlofomkhiefbmaaGreatDoor
theorem info29 : Tryz.prog.info? 29 = some Tryz.t29 := by kernel_rfl
theorem zero29 : Tryz.t29.zero = some (Value.agg #[Value.int .i64 0, Value.int .u64 0]) := by kernel_rfl
theorem info37 : Tryz.prog.info? 37 = some Tryz.t37 := by kernel_rfl
theorem zero37 : Tryz.t37.zero = some (Value.agg #[Value.int .i64 0, Value.int .i64 0, Value.int .u64 0, Value.bool false, Value.string ByteArray.empty, Value.bool false]) := by kernel_rfl
theorem info48 : Tryz.prog.info? 48 = some Tryz.t48 := by kernel_rfl
theorem eqT29 (w : World) (a0 : Int) (a1 : BitVec 64) (b0 : Int) (b1 : BitVec 64) : (Op.equal 29 (.agg #[.int .i64 a0, .int .u64 (a1.toNat : Int)]) (.agg #[.int .i64 b0, .int .u64 (b1.toNat : Int)])).run Tryz.prog w = .ok (decide ((⟨a0, a1⟩ : Label) = ⟨b0, b1⟩)) w := by
  have e1 : ((a1.toNat : Int) = (b1.toNat : Int)) ↔ a1 = b1 := ⟨fun h => BitVec.eq_of_toNat_eq (by omega), fun h => by rw [h]⟩
  refine (eqA_of Tryz.underlying29 Tryz.stoodInHeld29 (eqf_cons rfl (part1 Tryz.isAgg3 rfl) (part1 Tryz.isAgg3 rfl) (eq_int Tryz.runUnderlying3) (eqf_last rfl (part1 Tryz.isAgg27 rfl) (part1 Tryz.isAgg27 rfl) (eq_int Tryz.runUnderlying27)))).trans ?_
  simp only [Label.mk.injEq, Bool.decide_and, e1]
end Go.Proofs.YtlofomkhiefbmaaGreatDoor

set_option maxRecDepth 10000
namespace Go.Proofs.YtlofomkhiefbmaaGreatDoor
open Go.Proofs.Tryz
open Go.RowKit
theorem cloneLine_c {A : Option Addr} {c : Nat} {xs : List Line} {w : World} {C : Gh} (hH : Has w C) (hs : Sl kLine C A c xs) (hl : xs.length ≤ 100000) : Ret prog 110 #[.slice A xs.length c] w fun v w' => ∃ (C' : Gh) (A' : Option Addr) (c' : Nat), v = Value.slice A' xs.length c' ∧ Ext w.heap.size w C w' C' ∧ Sl kLine C' A' c' xs ∧ Own w.heap.size 35 2 w' C' A' xs.length c' := by
 refine Ret.of func110 rfl ntmps110 rfl ?_; have hE := Ext.refl (B := w.heap.size) hH; have aw := hs.bd; refine rg fun K1 a => ?_; refine az ?_; refine nl (a _ _ ?_); clear a K1; refine sk fun K2 aa => ?_; refine rg fun K3 ab => ?_; refine mv ?_; refine vl (.bool A.isNone) (r_eqlNil runUnderlying45 rfl rfl) ?_; refine nl (ab _ _ ?_); clear ab K3; refine cn (A.isNone) (fun ac => ?_) (fun ac => ?_)
 ·refine rg fun K4 ad => ?_; refine az ?_; refine nl (ad _ _ ?_); clear ad K4; refine xAQ (xAE (?_)); refine xAS (v := Value.slice none 0 0) results110 (.inl rfl) rfl ?_; obtain rfl : A = none := (by simpa using ac); obtain rfl : xs = [] := hs.nil_of; exact ⟨C, none, 0, rfl, hE, Sl.nil _ _ _ _, Own.nil⟩
 ·refine xAH (aa _ _ ?_); clear aa K2; refine rg fun K5 ae => ?_; refine FWl.lit0 rfl rfl rfl runUnderlying45 sizeOf35 hH ?_; intro A4 w5 e7; have ag := hE.step e7; have ao := e7.has; refine mv ?_; refine FWl.app (K := kLine) (B := w.heap.size) (xs := []) (ys := xs) (sz := 2) (bytes := 24) rfl rfl rfl underlying45 info35 zero35 rfl rfl rfl rfl rfl rfl rfl (Sl.nil kLine _ _ _) Own.full hs ao ag.size (by simp only [List.length_cons, List.length_nil]; omega) (by simp only [List.length_cons, List.length_nil]; omega) ?_; intro ah ai aA ap aq ar au aB; have av := ag.trans au; refine az ?_; refine nl (ae _ _ ?_); clear ae K5; refine xAQ (?_); refine xAS (v := Value.slice ah ((([]) ++ xs).length) ai) results110 (.inl rfl) rfl ?_; exact ⟨ap, ah, ai, rfl, av, aq, ar⟩
theorem equalLine_c {A1 A2 : Option Addr} {c1 c2 : Nat} {xs ys : List Line} {w : World} {C : Gh} (hH : Has w C) (h1 : Sl kLine C A1 c1 xs) (h2 : Sl kLine C A2 c2 ys) : Ret prog 153 #[.slice A1 xs.length c1, .slice A2 ys.length c2] w fun v w' => v = Value.bool (decide (xs = ys)) ∧ Ext w.heap.size w C w' C := by
 refine Ret.of func153 rfl ntmps153 rfl ?_; have hE := Ext.refl (B := w.heap.size) hH; have aX := h1.bd; have aY := h2.bd; refine rg fun K1 aj => ?_; refine az ?_; refine nl (aj _ _ ?_); clear aj K1; refine sk fun K2 ak => ?_; refine rg fun K3 al => ?_; refine mv ?_; refine vi (xAR underlying45 rfl) ?_; refine mv ?_; refine vi (xAR underlying45 rfl) ?_; refine vi (r_neq rfl rfl) ?_; refine nl (al _ _ ?_); clear al K3; refine cn (decide (((xs.length : Nat) : Int) ≠ ((ys.length : Nat) : Int))) (fun ad => ?_) (fun ad => ?_)
 ·have aZ : ((xs.length : Nat) : Int) ≠ ((ys.length : Nat) : Int) := of_decide_eq_true ad; refine rg fun K4 am => ?_; refine az ?_; refine nl (am _ _ ?_); clear am K4; refine xAQ (xAE (?_)); refine xAS (v := Value.bool false) results153 (.inl rfl) rfl ?_; exact ⟨congrArg Value.bool (by first | exact eq_len (by assumption) | exact eq_elem (by assumption) (by assumption) (by assumption) | exact eq_all hq (by assumption) (by assumption)), hE⟩
 ·have a0 : ¬ (((xs.length : Nat) : Int) ≠ ((ys.length : Nat) : Int)) := of_decide_eq_false ad; refine xAH (ak _ _ ?_); clear ak K2; refine sk fun K5 an => ?_; refine rg fun K6 ao => ?_; refine mv ?_; refine vi (xAR underlying45 rfl) ?_; refine mv ?_; refine nl (ao _ _ ?_); clear ao K6; refine xAI ?_; refine xAl (fun msr T a => ∃  (k : Nat), Holds T [(0, .slice A1 xs.length c1), (1, .slice A2 ys.length c2), (6, .slice A1 xs.length c1), (7, .int .i64 ((xs.length : Nat) : Int)), (8, .slice A2 ys.length c2), (9, .int .i64 ((ys.length : Nat) : Int)), (10, .bool (decide (((xs.length : Nat) : Int) ≠ ((ys.length : Nat) : Int)))), (11, .slice A1 xs.length c1), (12, .int .i64 ((xs.length : Nat) : Int)), (13, .int .i64 (k : Int))] ∧ Ext (w.heap.size) w C a C ∧ (k ≤ xs.length) ∧ (xs.take k = ys.take k) ∧ msr = xs.length - k) (xs.length - 0) ?_ ?_
  ·exact ⟨0, ⟨rfl, rfl, rfl, rfl, rfl, rfl, rfl, rfl, rfl, rfl, trivial⟩, Ext.refl hH, Nat.zero_le _, rfl, rfl⟩
  ·rintro msr T a ⟨k, hT, ae, hk, hq, rfl⟩; refine xAi hT fun B1 => ?_; have ap := hE.step ae; have aI := ae.has; refine rg fun K7 aq => ?_; refine vi (r_lss rfl rfl) ?_; refine nl (aq _ _ ?_); clear aq K7; refine sk fun K8 af => ?_; refine cn (decide ((k : Int) < ((xs.length : Nat) : Int))) (fun ag => ?_) (fun ag => ?_)
   ·have a2 : (k : Int) < ((xs.length : Nat) : Int) := of_decide_eq_true ag; refine xAH (af _ _ ?_); clear af K8; refine sk fun K9 au => ?_; refine xAI ?_; refine rg fun aL av => ?_; refine mv ?_; refine az ?_; refine nl (av _ _ ?_); clear av aL; refine sk fun aM aw => ?_; refine xAT mixed (SS C (fun _ => True) a.drew) [8] (.pure 0 (.pure 1 (.pure 2 (.take 3 (.pure 4 (.one 5 (.one 6 (.one 7 (.one 8 .done))))))))) rfl (by kernel_rfl) ?_; have ah : Ext a.heap.size a C a.drew C := (Ext.refl aI).drew; generalize a.drew = ax at *; have aN := ap.step ah; have aO := ae.step ah; have ay := ah.has; have ac : SS C (fun _ => True) ax ax := SS.refl ay; have a3 := Gle.refl C; refine pm ?_; refine pm ?_; obtain ⟨aa, aP⟩ := xAe (xs := xs) (j := k) (by omega); obtain ⟨a4, aQ, aR⟩ := h1.at_ _ _ aP; obtain rfl := aQ; refine pu rfl (ptrAt A1 (((k : Int)).toNat * 2)) (fun _ => xAJ underlying45 sizeOf35 rfl rfl (h1.isSome (by omega)) (by omega) (by omega)) ?_; refine tk rfl (.agg #[.string aa.text, .bool aa.bare]) ac (fun _ hS' => xAp isAgg35 sizeOf35 aR rfl hS'.has) ?_; refine pm ?_; refine wm (.inr ac) ?_; obtain ⟨ab, aS⟩ := xAe (xs := ys) (j := k) (by omega); obtain ⟨a5, aT, aU⟩ := h2.at_ _ _ aS; obtain rfl := aT; refine ws rfl (ptrAt A2 (((k : Int)).toNat * 2)) (xAJ underlying45 sizeOf35 rfl rfl (h2.isSome (by omega)) (by omega) (by omega)) (.inr ac) ?_; refine ws rfl (.agg #[.string ab.text, .bool ab.bare]) (xAp isAgg35 sizeOf35 aU rfl ay) (.inr ac) ?_; refine ws rfl (.bool (!decide (aa = ab))) (r_neqAgg eqGuardType35 (fun _ => eqT35 _ _ _ _ _) rfl rfl) (.inl rfl) ?_; refine xAf (aw _ _ ?_); clear aw aM; refine cn (!decide (aa = ab)) (fun ai => ?_) (fun ai => ?_)
    ·have a6 : ¬ (aa = ab) := (by simpa using ai); refine rg fun aV aA => ?_; refine az ?_; refine nl (aA _ _ ?_); clear aA aV; refine xAQ (xAN (xAE (xAE (xAN (xAE (?_)))))); refine xAS (v := Value.bool false) results153 (.inl rfl) rfl ?_; exact ⟨congrArg Value.bool (by first | exact eq_len (by assumption) | exact eq_elem (by assumption) (by assumption) (by assumption) | exact eq_all hq (by assumption) (by assumption)), aN⟩
    ·have a7 : aa = ab := (by simpa using ai); refine xAH (au _ _ ?_); clear au K9; refine xAA rfl ?_; refine vi (xAX rfl rfl (by omega) (by omega)) ?_; refine mv ?_; refine nl (xAG (?_)); refine ⟨_, ⟨k + 1, ⟨rfl, rfl, rfl, rfl, rfl, rfl, rfl, rfl, rfl, rfl, trivial⟩, aO, by omega, take_eq_step hq (by assumption) (by assumption) (by assumption), rfl⟩, ?_⟩; omega
   ·have a8 : ¬ ((k : Int) < ((xs.length : Nat) : Int)) := of_decide_eq_false ag; refine xAc (xAC (xAC (xAM (an _ _ ?_)))); clear an K5 af K8; refine rg fun aW aB => ?_; refine az ?_; refine nl (aB _ _ ?_); clear aB aW; refine xAQ (?_); refine xAS (v := Value.bool true) results153 (.inl rfl) rfl ?_; exact ⟨congrArg Value.bool (by first | exact eq_len (by assumption) | exact eq_elem (by assumption) (by assumption) (by assumption) | exact eq_all hq (by assumption) (by assumption)), ap⟩
theorem check_c {A : Option Addr} {c : Nat} {s : List Edit} {w : World} {C : Gh} (hH : Has w C) (hs : Sl kEdit C A c s) (ok : okS s) : Ret prog 107 #[.slice A s.length c] w fun v w' => ∃ (C' : Gh), v = Value.int .i64 0 ∧ Ext w.heap.size w C w' C' := by
 refine Ret.of func107 rfl ntmps107 rfl ?_; have hE := Ext.refl (B := w.heap.size) hH; have b := hs.bd; have aQ := ok.len; refine rg fun K1 ao => ?_; refine az ?_; refine nl (ao _ _ ?_); clear ao K1; refine sk fun K2 ap => ?_; refine rg fun K3 aq => ?_; refine mv ?_; refine vi (xAR underlying78 rfl) ?_; refine vi (r_gtr rfl rfl) ?_; refine nl (aq _ _ ?_); clear aq K3; refine cn (decide (800 < ((s.length : Nat) : Int))) (fun ae => ?_) (fun ae => ?_)
 ·have ba : 800 < ((s.length : Nat) : Int) := of_decide_eq_true ae; refine rg fun K4 ar => ?_; refine az ?_; refine nl (ar _ _ ?_); clear ar K4; refine xAQ (xAE (?_)); refine xAS (v := Value.int .i64 4) results107 (.inl rfl) rfl ?_; exfalso; omega
 ·have bb : ¬ (800 < ((s.length : Nat) : Int)) := of_decide_eq_false ae; refine xAH (ap _ _ ?_); clear ap K2; refine rg fun K5 au => ?_; refine az ?_; refine az ?_; refine nl (au _ _ ?_); clear au K5; refine sk fun K6 av => ?_; refine rg fun K7 aw => ?_; refine mv ?_; refine vi (xAR underlying78 rfl) ?_; refine mv ?_; refine nl (aw _ _ ?_); clear aw K7; refine xAI ?_; refine xAl (fun msr T w4 => ∃ (C5 : Gh) (k : Nat) (n : Int), Holds T [(0, .slice A s.length c), (3, .int .i64 n), (4, .int .i64 0), (7, .slice A s.length c), (8, .int .i64 ((s.length : Nat) : Int)), (9, .bool (decide (800 < ((s.length : Nat) : Int)))), (10, .slice A s.length c), (11, .int .i64 ((s.length : Nat) : Int)), (12, .int .i64 (k : Int))] ∧ Ext (w.heap.size) w C w4 C5 ∧ (k ≤ s.length) ∧ (n = (total (s.take k) : Int)) ∧ msr = s.length - k) (s.length - 0) ?_ ?_
  ·exact ⟨C, 0, 0, ⟨rfl, rfl, rfl, rfl, rfl, rfl, rfl, rfl, rfl, trivial⟩, Ext.refl hH, Nat.zero_le _, by simp [total], rfl⟩
  ·rintro msr T w4 ⟨C5, k, n, hT, ab, hk, hn, rfl⟩; refine xAi hT fun B1 => ?_; have ay := hE.step ab; have aA := hs.mono ab.le; have aB := ab.has; have htk := total_take_le s k; have aQ := ok.len; have be := ok.tot; refine rg fun K8 aC => ?_; refine vi (r_lss rfl rfl) ?_; refine nl (aC _ _ ?_); clear aC K8; refine sk fun K9 af => ?_; refine cn (decide ((k : Int) < ((s.length : Nat) : Int))) (fun ag => ?_) (fun ag => ?_)
   ·have bf : (k : Int) < ((s.length : Nat) : Int) := of_decide_eq_true ag; refine xAH (af _ _ ?_); clear af K9; refine sk fun ah aa => ?_; refine xAI ?_; refine rg fun aZ aE => ?_; obtain ⟨a, ai⟩ := xAe (xs := s) (j := k) (by omega); obtain ⟨bg, a0, a1⟩ := aA.at_ _ _ ai; obtain ⟨aj, ak, rfl, bh⟩ := a0; have hxd := ok.dos _ (List.mem_of_getElem? ai); have htt := total_take_le s (k + 1); rw [total_take ai] at htt; refine vl (ptrAt A (((k : Int)).toNat * 2)) (xAJ underlying78 sizeOf139 rfl rfl (aA.isSome (by omega)) (by omega) (by omega)) ?_; refine vl (.agg #[.int .i64 a.do_, .slice aj a.lines.length ak]) (xAp isAgg139 sizeOf139 a1 rfl aB) ?_; refine xAb (cs := [.int .i64 0, .slice none 0 0]) rfl rfl rfl zeroValue139 rfl aB ?_; intro bi bj aF aG aH; have bk := Nat.le_trans ay.size (Nat.le_of_eq aH); have bl := Nat.le_trans ab.size (Nat.le_of_eq aH); have aI := ab.step aG; have a2 := aG.has; have bm := aF.lt; refine xAP (vs := [.int .i64 a.do_, .slice aj a.lines.length ak]) (cs' := [.int .i64 a.do_, .slice aj a.lines.length ak]) rfl rfl rfl sizeOf139 rfl aF a2 rfl rfl rfl rfl rfl rfl ?_; intro bn a3 al; have a4 := aI.trans (a3.ext aI.size (by omega)); refine nl (aE _ _ ?_); clear aE aZ; refine sk fun a5 aJ => ?_; refine rg fun a6 aK => ?_; refine mv ?_; refine fa 1 rfl underlying139 rfl sizeOf45 ?_; refine vi (xAV isAgg45 rfl (al.cell rfl)) ?_; refine vi (xAR underlying45 rfl) ?_; refine vi (xAX rfl rfl (by omega) (by omega)) ?_; refine vi (r_min2 rfl rfl) ?_; refine az ?_; refine nl (aK _ _ ?_); clear aK a6; refine rg fun a7 aL => ?_; refine mv ?_; refine vi (r_gtr rfl rfl) ?_; refine nl (aL _ _ ?_); clear aL a7; refine cn (decide (800 < (min (n + ((a.lines.length : Nat) : Int)) 801))) (fun am => ?_) (fun am => ?_)
    ·have bo : 800 < (min (n + ((a.lines.length : Nat) : Int)) 801) := of_decide_eq_true am; refine rg fun a8 aM => ?_; refine az ?_; refine nl (aM _ _ ?_); clear aM a8; refine xAQ (xAE (xAN (xAE (xAE (xAN (xAE (?_))))))); refine xAS (v := Value.int .i64 4) results107 (.inl rfl) rfl ?_; exfalso; omega
    ·have bp : ¬ (800 < (min (n + ((a.lines.length : Nat) : Int)) 801)) := of_decide_eq_false am; refine xAH (aJ _ _ ?_); clear aJ a5; refine rg fun aN ad => ?_; refine fa 0 rfl underlying139 rfl sizeOf137 ?_; refine vi (xAV isAgg137 rfl (al.cell rfl)) ?_; refine vi (r_lss rfl rfl) ?_; refine mv ?_
     cases aO : (decide (a.do_ < 1)) with
     | true =>
      have bq : a.do_ < 1 := of_decide_eq_true aO; refine sp ?_; refine sp ?_; refine sp ?_; refine pkT ?_; refine nl (ad _ _ ?_); clear ad aN; refine xAK true rfl (fun _ => ?_) (fun h => nomatch h); refine xAA rfl ?_; refine az ?_; refine nl (aa _ _ ?_); clear aa ah; refine xAA rfl ?_; refine vi (xAX rfl rfl (by omega) (by omega)) ?_; refine mv ?_; refine nl (xAG (?_)); exfalso; omega
     | false =>
      have br : ¬ (a.do_ < 1) := of_decide_eq_false aO; refine fa 0 rfl underlying139 rfl sizeOf137 ?_; refine vi (xAV isAgg137 rfl (al.cell rfl)) ?_; refine vi (r_gtr rfl rfl) ?_; refine pkF ?_; refine nl (ad _ _ ?_); clear ad aN; refine cn (decide (3 < a.do_)) (fun an => ?_) (fun an => ?_)
      ·have bs : 3 < a.do_ := of_decide_eq_true an; refine xAA rfl ?_; refine az ?_; refine nl (aa _ _ ?_); clear aa ah; refine xAA rfl ?_; refine vi (xAX rfl rfl (by omega) (by omega)) ?_; refine mv ?_; refine nl (xAG (?_)); exfalso; omega
      ·have bu : ¬ (3 < a.do_) := of_decide_eq_false an; refine xAH (aa _ _ ?_); clear aa ah; refine xAA rfl ?_; refine vi (xAX rfl rfl (by omega) (by omega)) ?_; refine mv ?_; refine nl (xAG (?_)); refine ⟨_, ⟨C5, k + 1, _, ⟨rfl, rfl, rfl, rfl, rfl, rfl, rfl, rfl, rfl, trivial⟩, a4, by omega, by rw [total_take (by assumption), hn]; omega, rfl⟩, ?_⟩; omega
   ·have bv : ¬ ((k : Int) < ((s.length : Nat) : Int)) := of_decide_eq_false ag; refine xAc (xAC (xAC (xAM (av _ _ ?_)))); clear av K6 af K9; refine rg fun a9 aP => ?_; refine mv ?_; refine az ?_; refine nl (aP _ _ ?_); clear aP a9; refine xAQ (?_); refine xAS (v := Value.int .i64 0) results107 (.inl rfl) rfl ?_; exact ⟨C5, rfl, ay⟩
theorem sides_c {A : Option Addr} {c : Nat} {s : List Edit} {w : World} {C : Gh} (hH : Has w C) (hs : Sl kEdit C A c s) (ok : okS s) : Ret prog 133 #[.slice A s.length c] w fun v w' => ∃ (C' : Gh) (A1 : Option Addr) (c1 : Nat) (A2 : Option Addr) (c2 : Nat), v = Value.tuple #[.slice A1 ((oldS s).length) c1, .slice A2 ((newS s).length) c2] ∧ Ext w.heap.size w C w' C' ∧ Sl kLine C' A1 c1 (oldS s) ∧ Sl kLine C' A2 c2 (newS s) := by
 refine Ret.of func133 rfl ntmps133 rfl ?_; have hE := Ext.refl (B := w.heap.size) hH; have b2 := hs.bd; have b3 := ok.len; have b4 := ok.tot; refine rg fun K1 aK => ?_; refine az ?_; refine az ?_; refine nl (aK _ _ ?_); clear aK K1; refine sk fun b aL => ?_; refine rg fun K3 aM => ?_; refine mv ?_; refine vi (xAR underlying78 rfl) ?_; refine mv ?_; refine nl (aM _ _ ?_); clear aM K3; refine xAI ?_; refine xAl (fun msr T w1 => ∃ (C2 : Gh) (k : Nat) (Aa Ab : Option Addr) (ca cb : Nat) (la lb : List Line), Holds T [(0, .slice A s.length c), (2, .slice Aa la.length ca), (3, .slice Ab lb.length cb), (6, .slice A s.length c), (7, .int .i64 ((s.length : Nat) : Int)), (8, .int .i64 (k : Int))] ∧ Ext (w.heap.size) w C w1 C2 ∧ (k ≤ s.length) ∧ (la = oldS (s.take k)) ∧ (lb = newS (s.take k)) ∧ (Sl kLine C2 Aa ca la) ∧ (Sl kLine C2 Ab cb lb) ∧ (Own w.heap.size 35 2 w1 C2 Aa la.length ca) ∧ (Own w.heap.size 35 2 w1 C2 Ab lb.length cb) ∧ (Nb2 Aa la.length ca Ab lb.length cb) ∧ msr = s.length - k) (s.length - 0) ?_ ?_
 ·exact ⟨C, 0, none, none, 0, 0, [], [], ⟨rfl, rfl, rfl, rfl, rfl, rfl, trivial⟩, Ext.refl hH, Nat.zero_le _, by simp [oldS], by simp [newS], Sl.nil _ _ _ _, Sl.nil _ _ _ _, Own.nil, Own.nil, Nb2.nil, rfl⟩
 ·rintro msr T w1 ⟨C2, k, Aa, Ab, ca, cb, la, lb, hT, ad, hk, ela, elb, ha, hb, oa, ob, nab, rfl⟩; refine xAi hT fun B1 => ?_; have aj := hE.trans ad; have aN := hs.mono ad.le; have aO := ad.has; have hla : la.length ≤ 800 := (by rw [ela]; exact Nat.le_trans (oldS_len _) (Nat.le_trans (total_take_le s k) ok.tot)); have hlb : lb.length ≤ 800 := (by rw [elb]; exact Nat.le_trans (newS_len _) (Nat.le_trans (total_take_le s k) ok.tot)); refine rg fun K4 aP => ?_; refine vi (r_lss rfl rfl) ?_; refine nl (aP _ _ ?_); clear aP K4; refine sk fun K5 aq => ?_; refine cn (decide ((k : Int) < ((s.length : Nat) : Int))) (fun ar => ?_) (fun ar => ?_)
  ·have b6 : (k : Int) < ((s.length : Nat) : Int) := of_decide_eq_true ar; refine xAH (aq _ _ ?_); clear aq K5; refine sk fun K6 ab => ?_; refine xAI ?_; refine rg fun K7 aR => ?_; obtain ⟨a, av⟩ := xAe (xs := s) (j := k) (by omega); obtain ⟨b7, be, bf⟩ := aN.at_ _ _ av; obtain ⟨aw, ax, rfl, ak⟩ := be; have hxd := ok.dos _ (List.mem_of_getElem? av); have htt := total_take_le s (k + 1); rw [total_take av] at htt; refine vl (ptrAt A (((k : Int)).toNat * 2)) (xAJ underlying78 sizeOf139 rfl rfl (aN.isSome (by omega)) (by omega) (by omega)) ?_; refine vl (.agg #[.int .i64 a.do_, .slice aw a.lines.length ax]) (xAp isAgg139 sizeOf139 bf rfl aO) ?_; refine xAb (cs := [.int .i64 0, .slice none 0 0]) rfl rfl rfl zeroValue139 rfl aO ?_; intro b8 b9 aS ae al; have cc := Nat.le_trans aj.size (Nat.le_of_eq al); have cd := Nat.le_trans ad.size (Nat.le_of_eq al); have ay := aj.step ae; have bg := ad.trans (ae.mono aj.size); have oa_23 := oa.call ae; have ob_24 := ob.call ae; have bh := ae.has; have ce := aS.lt; have bi := oa.nb (Nat.le_of_eq al); have bj := ob.nb (Nat.le_of_eq al); refine xAP (vs := [.int .i64 a.do_, .slice aw a.lines.length ax]) (cs' := [.int .i64 a.do_, .slice aw a.lines.length ax]) rfl rfl rfl sizeOf139 rfl aS bh rfl rfl rfl rfl rfl rfl ?_; intro cf af ac; have am := ay.trans (af.ext ay.size (by omega)); have aA := bg.trans (af.ext ay.size (by omega)); have oa_33 := oa_23.mut af bi; have ob_34 := ob_24.mut af bj; have aB := af.has; refine nl (aR _ _ ?_); clear aR K7; refine rg fun K8 aT => ?_; refine fa 0 rfl underlying139 rfl sizeOf137 ?_; refine vi (xAV isAgg137 rfl (ac.cell rfl)) ?_; refine nl (aT _ _ ?_); clear aT K8; refine xAI ?_; refine sk fun K9 an => ?_; refine xAI ?_; refine sk fun aD ag => ?_; refine xAI ?_
   refine sk fun aE ao => ?_; refine xAI ?_; refine sk fun aF ap => ?_; refine sk fun aU aG => ?_; refine rg fun bl aV => ?_; refine vi (r_eql rfl rfl) ?_; refine az ?_; refine nl (aV _ _ ?_); clear aV bl; refine cn (decide (a.do_ = 1)) (fun aH => ?_) (fun aH => ?_)
   ·have cg : a.do_ = 1 := of_decide_eq_true aH; refine xAc (xAC (xAC (xAM (ao _ _ ?_)))); clear ao aE ap aF aG aU; refine xAA rfl ?_; refine mv ?_; refine fa 1 rfl underlying139 rfl sizeOf45 ?_; refine vi (xAV isAgg45 rfl (ac.cell rfl)) ?_; refine FWl.app (K := kLine) (B := w.heap.size) (xs := lb) (ys := a.lines) (sz := 2) (bytes := 24) rfl rfl rfl underlying45 info35 zero35 rfl rfl rfl rfl rfl rfl rfl hb ob_34 ak aB am.size (by omega) (by omega) ?_; intro bm bn ch ci bo aW ah aI; have bp := am.trans ah; have bq := aA.trans ah; have br := ac.app aI (ob_34.nbT ac (by decide)); have aX := aI.nb2 oa_33 nab.symm; have oa_50 := oa_33.app aI nab.symm; have bs := ha.mono ah.le; have bu := ak.mono ah.le; have bv := ah.has; refine az ?_; refine nl (ag _ _ ?_); clear ag aD; refine rg fun bw aY => ?_; refine mv ?_; refine fa 1 rfl underlying139 rfl sizeOf45 ?_; refine vi (xAV isAgg45 rfl (br.cell rfl)) ?_; refine FWl.app (K := kLine) (B := w.heap.size) (xs := la) (ys := a.lines) (sz := 2) (bytes := 24) rfl rfl rfl underlying45 info35 zero35 rfl rfl rfl rfl rfl rfl rfl bs oa_50 bu bv bp.size (by omega) (by omega) ?_; intro bx bz cj bA bB bC aZ a0; have bD := bq.trans aZ; have bE := a0.nb2 aW aX.symm; have bF := aW.app a0 aX.symm; have bG := bo.mono aZ.le; refine az ?_; refine nl (aY _ _ ?_); clear aY bw; refine xAc (xAn rfl (xAC (xAM (ab _ _ ?_)))); clear ab K6 an K9; refine xAA rfl ?_; refine vi (xAX rfl rfl (by omega) (by omega)) ?_; refine mv ?_; refine nl (xAG (?_)); refine ⟨_, ⟨bA, k + 1, bx, bm, bz, bn, la ++ a.lines, lb ++ a.lines, ⟨rfl, rfl, rfl, rfl, rfl, rfl, trivial⟩, bD, by omega, by rw [oldS_take (by assumption), ela]; first | rw [if_pos (by omega), List.append_nil] | rw [if_neg (by omega)], by rw [newS_take (by assumption), elb]; first | rw [if_pos (by omega), List.append_nil] | rw [if_neg (by omega)], bB, bG, bC, bF, bE, rfl⟩, ?_⟩
    omega
   ·have ck : ¬ (a.do_ = 1) := of_decide_eq_false aH; refine xAH (aG _ _ ?_); clear aG aU; refine rg fun bH a1 => ?_; refine vi (r_eql rfl rfl) ?_; refine az ?_; refine nl (a1 _ _ ?_); clear a1 bH; refine cn (decide (a.do_ = 2)) (fun aJ => ?_) (fun aJ => ?_)
    ·have cl : a.do_ = 2 := of_decide_eq_true aJ; refine xAc (xAC (xAn rfl (xAC (xAM (ag _ _ ?_))))); clear ag aD ao aE ap aF; refine rg fun bI a2 => ?_; refine mv ?_; refine fa 1 rfl underlying139 rfl sizeOf45 ?_; refine vi (xAV isAgg45 rfl (ac.cell rfl)) ?_; refine FWl.app (K := kLine) (B := w.heap.size) (xs := la) (ys := a.lines) (sz := 2) (bytes := 24) rfl rfl rfl underlying45 info35 zero35 rfl rfl rfl rfl rfl rfl rfl ha oa_33 ak aB am.size (by omega) (by omega) ?_; intro bJ bK cm bL bM bN a3 a4; have bO := aA.trans a3; have bP := a4.nb2 ob_34 nab; have ob_92 := ob_34.app a4 nab; have bQ := hb.mono a3.le; refine az ?_; refine nl (a2 _ _ ?_); clear a2 bI; refine xAc (xAn rfl (xAC (xAM (ab _ _ ?_)))); clear ab K6 an K9; refine xAA rfl ?_; refine vi (xAX rfl rfl (by omega) (by omega)) ?_; refine mv ?_; refine nl (xAG (?_)); refine ⟨_, ⟨bL, k + 1, bJ, Ab, bK, cb, la ++ a.lines, lb, ⟨rfl, rfl, rfl, rfl, rfl, rfl, trivial⟩, bO, by omega, by rw [oldS_take (by assumption), ela]; first | rw [if_pos (by omega), List.append_nil] | rw [if_neg (by omega)], by rw [newS_take (by assumption), elb]; first | rw [if_pos (by omega), List.append_nil] | rw [if_neg (by omega)], bM, bQ, bN, ob_92, bP, rfl⟩, ?_⟩; omega
    ·have co : ¬ (a.do_ = 2) := of_decide_eq_false aJ; refine xAH (ap _ _ ?_); clear ap aF; refine xAc (xAn rfl (xAC (xAn rfl (xAC (xAM (an _ _ ?_)))))); clear an K9 ag aD ao aE; refine rg fun bR a5 => ?_; refine mv ?_; refine fa 1 rfl underlying139 rfl sizeOf45 ?_; refine vi (xAV isAgg45 rfl (ac.cell rfl)) ?_; refine FWl.app (K := kLine) (B := w.heap.size) (xs := lb) (ys := a.lines) (sz := 2) (bytes := 24) rfl rfl rfl underlying45 info35 zero35 rfl rfl rfl rfl rfl rfl rfl hb ob_34 ak aB am.size (by omega) (by omega) ?_; intro bT bU cp bV bW bX a6 a7; have bY := aA.trans a6; have bZ := a7.nb2 oa_33 nab.symm; have oa_112 := oa_33.app a7 nab.symm; have b0 := ha.mono a6.le; refine az ?_; refine nl (a5 _ _ ?_); clear a5 bR; refine xAc (xAM (ab _ _ ?_)); clear ab K6; refine xAA rfl ?_; refine vi (xAX rfl rfl (by omega) (by omega)) ?_; refine mv ?_; refine nl (xAG (?_)); refine ⟨_, ⟨bV, k + 1, Aa, bT, ca, bU, la, lb ++ a.lines, ⟨rfl, rfl, rfl, rfl, rfl, rfl, trivial⟩, bY, by omega, by rw [oldS_take (by assumption), ela]; first | rw [if_pos (by omega), List.append_nil] | rw [if_neg (by omega)], by rw [newS_take (by assumption), elb]; first | rw [if_pos (by omega), List.append_nil] | rw [if_neg (by omega)], b0, bW, oa_112, bX, bZ.symm, rfl⟩, ?_⟩; omega
  ·have cq : ¬ ((k : Int) < ((s.length : Nat) : Int)) := of_decide_eq_false ar; refine xAc (xAC (xAC (xAM (aL _ _ ?_)))); clear aL b aq K5; refine rg fun b1 a8 => ?_; refine mv ?_; refine mv ?_; refine az ?_; refine az ?_; refine nl (a8 _ _ ?_); clear a8 b1; refine xAQ (?_); refine xAt (v := Value.slice Aa la.length ca) (v' := Value.slice Ab lb.length cb) results133 (.inl rfl) rfl rfl ?_; obtain rfl : k = s.length := (by omega); rw [List.take_length] at ela elb; subst ela elb; exact ⟨C2, Aa, ca, Ab, cb, rfl, aj, ha, hb⟩

end Go.Proofs.YtlofomkhiefbmaaGreatDoor

set_option maxRecDepth 10000
namespace Go.Proofs.YtlofomkhiefbmaaGreatDoor
open Go.Proofs.Tryz
open Go.RowKit
theorem Below_c {a b : Label} {w : World} {C : Gh} (hH : Has w C) : Ret prog 54 #[.agg #[.int .i64 a.level, .int .u64 (a.cats.toNat : Int)], .agg #[.int .i64 b.level, .int .u64 (b.cats.toNat : Int)]] w fun v w' => ∃ (C' : Gh), v = Value.bool (decide (belowL a b)) ∧ Ext w.heap.size w C w' C' := by
 refine Ret.of func54 rfl ntmps54 rfl ?_; have hE := Ext.refl (B := w.heap.size) hH; refine rg fun K1 ad => ?_; refine xAh (cs := [.int .i64 a.level, .int .u64 (a.cats.toNat : Int)]) rfl rfl rfl rfl rfl hH ?_; intro g1 w2 ae e4 av; have aE := Nat.le_trans hE.size (Nat.le_of_eq av); have ag := hE.step e4; have aw := e4.has; have aF := ae.lt; obtain ⟨C8, m9, ax⟩ := ae.commit aw; have ai := ag.trans (m9.ext ag.size (by omega)); have ay := m9.has; refine xAh (cs := [.int .i64 b.level, .int .u64 (b.cats.toNat : Int)]) rfl rfl rfl rfl rfl ay ?_; intro aH aI aj ak aA; have aJ := Nat.le_trans ai.size (Nat.le_of_eq aA); have al := ai.step ak; have aB := ak.has; have aK := aj.lt; obtain ⟨am, ac, an⟩ := aj.commit aB; have ao := al.trans (ac.ext al.size (by omega)); have aa := ac.has; have ap := ax.mono ac.le; refine az ?_; refine nl (ad _ _ ?_); clear ad K1; refine rg fun K2 ab => ?_; refine fa 0 rfl underlying29 rfl sizeOf3 ?_; refine vi (xAF isAgg3 ap rfl rfl aa) ?_; refine fa 0 rfl underlying29 rfl sizeOf3 ?_; refine vi (xAF isAgg3 an rfl rfl aa) ?_; refine vi (r_leq rfl rfl) ?_; refine mv ?_
 cases ar : (decide (a.level ≤ b.level)) with
 | true =>
  have aL : a.level ≤ b.level := of_decide_eq_true ar; refine fa 1 rfl underlying29 rfl sizeOf27 ?_; refine vi (xAF isAgg27 ap rfl rfl aa) ?_; refine fa 1 rfl underlying29 rfl sizeOf27 ?_; refine vi (xAF isAgg27 an rfl rfl aa) ?_; refine vl (.int .u64 ((a.cats &&& ~~~ b.cats).toNat : Int)) (r_andNotU rfl rfl) ?_; refine vl (.bool (decide ((a.cats &&& ~~~ b.cats) = 0#64))) (r_eqlU0 rfl rfl) ?_; refine pkT ?_; refine az ?_; refine nl (ab _ _ ?_); clear ab K2; refine xAQ (?_); refine xAS (v := Value.bool (decide ((a.cats &&& ~~~ b.cats) = 0#64))) results54 (.inl rfl) rfl ?_; exact ⟨am, congrArg Value.bool (by unfold belowL; simp [*]), ao⟩
 | false =>
  have aM : ¬ (a.level ≤ b.level) := of_decide_eq_false ar; refine sp ?_; refine sp ?_; refine sp ?_; refine sp ?_; refine sp ?_; refine sp ?_; refine pkF ?_; refine az ?_; refine nl (ab _ _ ?_); clear ab K2; refine xAQ (?_); refine xAS (v := Value.bool false) results54 (.inl rfl) rfl ?_; exact ⟨am, congrArg Value.bool (decide_eq_false fun h => by have := h.1; omega).symm, ao⟩
theorem LRight_c {a : Label} {w : World} {C : Gh} (hH : Has w C) : Ret prog 53 #[.agg #[.int .i64 a.level, .int .u64 (a.cats.toNat : Int)]] w fun v w' => ∃ (C' : Gh), v = Value.bool (decide (rightL a)) ∧ Ext w.heap.size w C w' C' := by
 refine Ret.of func53 rfl ntmps53 rfl ?_; have hE := Ext.refl (B := w.heap.size) hH; refine rg fun K1 ab => ?_; refine xAh (cs := [.int .i64 a.level, .int .u64 (a.cats.toNat : Int)]) rfl rfl rfl rfl rfl hH ?_; intro g1 w2 ac e4 an; have ar := Nat.le_trans hE.size (Nat.le_of_eq an); have ae := hE.step e4; have ao := e4.has; have au := ac.lt; obtain ⟨C8, m9, ah⟩ := ac.commit ao; have ai := ae.trans (m9.ext ae.size (by omega)); have aj := m9.has; refine az ?_; refine nl (ab _ _ ?_); clear ab K1; refine rg fun K2 aa => ?_; refine fa 0 rfl underlying29 rfl sizeOf3 ?_; refine vi (xAF isAgg3 ah rfl rfl aj) ?_; refine vi (r_geq rfl rfl) ?_; refine mv ?_
 cases al : (decide (0 ≤ a.level)) with
 | true =>
  have av : 0 ≤ a.level := of_decide_eq_true al; refine fa 0 rfl underlying29 rfl sizeOf3 ?_; refine vi (xAF isAgg3 ah rfl rfl aj) ?_; refine vi (r_leq rfl rfl) ?_; refine pkT ?_; refine az ?_; refine nl (aa _ _ ?_); clear aa K2; refine xAQ (?_); refine xAS (v := Value.bool (decide (a.level ≤ 15))) results53 (.inl rfl) rfl ?_; exact ⟨C8, congrArg Value.bool (by unfold rightL; simp [*]), ai⟩
 | false =>
  have aw : ¬ (0 ≤ a.level) := of_decide_eq_false al; refine sp ?_; refine sp ?_; refine sp ?_; refine pkF ?_; refine az ?_; refine nl (aa _ _ ?_); clear aa K2; refine xAQ (?_); refine xAS (v := Value.bool false) results53 (.inl rfl) rfl ?_; exact ⟨C8, congrArg Value.bool (by unfold rightL; simp [*]), ai⟩
theorem Meet_c {a b : Label} {w : World} {C : Gh} (hH : Has w C) : Ret prog 14 #[.agg #[.int .i64 a.level, .int .u64 (a.cats.toNat : Int)], .agg #[.int .i64 b.level, .int .u64 (b.cats.toNat : Int)]] w fun v w' => ∃ (C' : Gh), v = Value.agg #[.int .i64 ((meetL a b).level), .int .u64 (((meetL a b).cats).toNat : Int)] ∧ Ext w.heap.size w C w' C' := by
 refine Ret.of func14 rfl ntmps14 rfl ?_; have hE := Ext.refl (B := w.heap.size) hH; refine rg fun K1 ac => ?_; refine xAh (cs := [.int .i64 a.level, .int .u64 (a.cats.toNat : Int)]) rfl rfl rfl rfl rfl hH ?_; intro g1 w2 ad e4 av; have aL := Nat.le_trans hE.size (Nat.le_of_eq av); have af := hE.step e4; have aw := e4.has; have aM := ad.lt; obtain ⟨C8, m9, ax⟩ := ad.commit aw; have ah := af.trans (m9.ext af.size (by omega)); have ay := m9.has; refine xAh (cs := [.int .i64 b.level, .int .u64 (b.cats.toNat : Int)]) rfl rfl rfl rfl rfl ay ?_; intro aO aP ai aj aA; have aQ := Nat.le_trans ah.size (Nat.le_of_eq aA); have ak := ah.step aj; have aB := aj.has; have aR := ai.lt; obtain ⟨aC, ab, al⟩ := ai.commit aB; have am := ak.trans (ab.ext ak.size (by omega)); have aD := ab.has; have an := ax.mono ab.le; refine xAb (cs := [.int .i64 0, .int .u64 0]) rfl rfl rfl zeroValue29 rfl aD ?_; intro aS aT ao ap aE; have aU := Nat.le_trans am.size (Nat.le_of_eq aE); have aq := am.step ap; have aa := ap.has; have aV := ao.lt; refine nl (ac _ _ ?_); clear ac K1; refine rg fun K2 ar => ?_; refine fa 0 rfl underlying29 rfl sizeOf3 ?_; refine vi (xAF isAgg3 an rfl rfl aa) ?_; refine fa 0 rfl underlying29 rfl sizeOf3 ?_; refine vi (xAF isAgg3 al rfl rfl aa) ?_; refine vi (r_min2 rfl rfl) ?_; refine fa 1 rfl underlying29 rfl sizeOf27 ?_; refine vi (xAF isAgg27 an rfl rfl aa) ?_; refine fa 1 rfl underlying29 rfl sizeOf27 ?_; refine vi (xAF isAgg27 al rfl rfl aa) ?_; refine vl (.int .u64 ((a.cats &&& b.cats).toNat : Int)) (r_andU rfl rfl) ?_; refine vl (.agg #[.int .i64 (min a.level b.level), .int .u64 ((a.cats &&& b.cats).toNat : Int)]) (r_build (by kernel_rfl)) ?_; refine xAP (vs := [.int .i64 (min a.level b.level), .int .u64 ((a.cats &&& b.cats).toNat : Int)]) (cs' := [.int .i64 (min a.level b.level), .int .u64 ((a.cats &&& b.cats).toNat : Int)]) rfl rfl rfl sizeOf29 rfl ao aa rfl rfl rfl rfl rfl rfl ?_
 intro aW aG aH; have aI := aq.trans (aG.ext aq.size (by omega)); refine nl (ar _ _ ?_); clear ar K2; refine xAQ (?_); refine ret_cellA results14 rfl aH underlying29 rfl (by rw [info29]; rfl) (.inl rfl) ?_; exact ⟨aC, rfl, aI⟩
theorem seen_r {B lo gl go c : Nat} {A : Option Addr} {l : List Item} {o : Label} {J : List (Nat × Item) → World → Gh → Prop} {Jx : World → Gh → Prop} {w : World} {C : Gh} (hH : Has w C) (hB0 : B ≤ w.heap.size) (hl : CellsG C (some ⟨gl, 0, none⟩) 0 [.slice A l.length c]) (ho : CellsG C (some ⟨go, 0, none⟩) 0 [.int .i64 o.level, .int .u64 (o.cats.toNat : Int)]) (hs : Sl kItem C A c l) (hJ : ∀ ps w C w' C', J ps w C → Ext w.heap.size w C w' C' → J ps w' C') (hJx : ∀ w C w' C', Jx w C → Ext w.heap.size w C w' C' → Jx w' C') (hy : ∀ ps x w C', (ps ++ [x]) <+: seenP l o → Has w C' → Gle C C' → B ≤ w.heap.size → J ps w C' → Yld prog lo (encI x) w fun v w' => ∃ C'', Ext B w C' w' C'' ∧ ((v = .bool true ∧ J (ps ++ [x]) w' C'') ∨ (v = .bool false ∧ Jx w' C''))) (h0 : J [] w C) : Ret prog 77 #[.func (.yield lo) #[] #[], .pointer (some ⟨gl, 0, none⟩), .pointer (some ⟨go, 0, none⟩)] w fun _ w' => ∃ C', Ext B w C w' C' ∧ (J (seenP l o) w' C' ∨ Jx w' C') := by
 refine Ret.of func77 rfl ntmps77 rfl ?_; have hE := Ext.refl (B := B) hH; have hgle := Gle.refl C; have hsb := hs.bd; refine rg fun K1 ax => ?_; refine vi (xAF isAgg26 hl rfl rfl hH) ?_; refine vi (xAR underlying26 rfl) ?_; refine mv ?_; refine nl (ax _ _ ?_); clear ax K1; refine xAI ?_; refine xAl (fun msr T w1 => ∃ (C2 : Gh) (k : Nat), Holds T [(0, .func (.yield lo) #[] #[]), (1, .pointer (some ⟨gl, 0, none⟩)), (2, .pointer (some ⟨go, 0, none⟩)), (6, .slice A l.length c), (7, .int .i64 ((l.length : Nat) : Int)), (8, .int .i64 (k : Int))] ∧ Ext (B) w C w1 C2 ∧ (k ≤ l.length) ∧ (J (seenP (l.take k) o) w1 C2) ∧ msr = l.length - k) (l.length - 0) ?_ ?_
 ·exact ⟨C, 0, ⟨rfl, rfl, rfl, rfl, rfl, rfl, trivial⟩, Ext.refl hH, Nat.zero_le _, h0, rfl⟩
 ·rintro msr T w1 ⟨C2, k, hT, aa, hk, hj, rfl⟩; refine xAi hT fun B1 => ?_; have ae := hE.trans aa; have aR := ho.mono aa.le; have ay := hs.mono aa.le; have aS := Gle.trans hgle aa.le; have al := aa.has; have am := Ext.refl (B := w1.heap.size) al; refine rg fun K2 aA => ?_; refine vi (r_lss rfl rfl) ?_; refine nl (aA _ _ ?_); clear aA K2; refine sk fun K3 aB => ?_; refine cn (decide ((k : Int) < ((l.length : Nat) : Int))) (fun an => ?_) (fun an => ?_)
  ·have bm : (k : Int) < ((l.length : Nat) : Int) := of_decide_eq_true an; refine xAH (aB _ _ ?_); clear aB K3; refine sk fun K4 ah => ?_; refine xAI ?_; refine rg fun K5 aD => ?_; refine mv ?_; obtain ⟨a, aW⟩ := xAe (xs := l) (j := k) (by omega); obtain ⟨bn, aX, aY⟩ := ay.at_ _ _ aW; obtain rfl := aX; refine vl (ptrAt A (((k : Int)).toNat * 6)) (xAJ underlying26 sizeOf37 rfl rfl (ay.isSome (by omega)) (by omega) (by omega)) ?_; refine vl (.agg #[.int .i64 a.id, .int .i64 a.label.level, .int .u64 (a.label.cats.toNat : Int), .bool a.anchor, .string a.line.text, .bool a.line.bare]) (xAp isAgg37 sizeOf37 aY rfl al) ?_; refine xAb (cs := [.int .i64 0, .int .i64 0, .int .u64 0, .bool false, .string ByteArray.empty, .bool false]) rfl rfl rfl zeroValue37 rfl al ?_; intro bo bp aE ai ao; have bq := Nat.le_trans ae.size (Nat.le_of_eq ao); have br := Nat.le_trans am.size (Nat.le_of_eq ao); have bs := Nat.le_trans aa.size (Nat.le_of_eq ao); have ap := ae.trans (ai.mono (Nat.le_trans hB0 ae.size)); have aF := am.step ai; have aZ := aa.trans (ai.mono (Nat.le_trans hB0 ae.size)); have a0 := ai.has; have bu := aE.lt; refine az ?_; refine xAP (vs := [.int .i64 a.id, .int .i64 a.label.level, .int .u64 (a.label.cats.toNat : Int), .bool a.anchor, .string a.line.text, .bool a.line.bare]) (cs' := [.int .i64 a.id, .int .i64 a.label.level, .int .u64 (a.label.cats.toNat : Int), .bool a.anchor, .string a.line.text, .bool a.line.bare]) rfl rfl rfl sizeOf37 rfl aE a0 rfl rfl rfl rfl rfl rfl ?_; intro bv aj a1; have aq := ap.trans (aj.ext (Nat.le_trans hB0 ap.size) (by omega)); have aG := aF.trans (aj.ext aF.size (by omega)); have a2 := aZ.trans (aj.ext (Nat.le_trans hB0 ap.size) (by omega))
   have a3 := aj.has; obtain ⟨bw, ab, aH⟩ := a1.commit a3; have ar := aq.trans (ab.ext (Nat.le_trans hB0 aq.size) (by omega)); have a4 := aG.trans (ab.ext aG.size (by omega)); have a5 := a2.trans (ab.ext (Nat.le_trans hB0 aq.size) (by omega)); have au := ab.has; have a6 := aR.mono ab.le; have a7 := Gle.trans aS ab.le; refine nl (aD _ _ ?_); clear aD K5; refine rg fun K6 ac => ?_; refine fa 1 rfl underlying37 rfl sizeOf29 ?_; refine vl (.agg #[.int .i64 a.label.level, .int .u64 (a.label.cats.toNat : Int)]) (r_loadPX (o := 1) (ds := [.int .i64 a.label.level, .int .u64 (a.label.cats.toNat : Int)]) isAgg29 sizeOf29 aH rfl rfl au) ?_; refine vl (.agg #[.int .i64 o.level, .int .u64 (o.cats.toNat : Int)]) (xAY isAgg29 sizeOf29 a6 rfl au) ?_; refine xAD 16 rfl rfl 54 #[.agg #[.int .i64 a.label.level, .int .u64 (a.label.cats.toNat : Int)], .agg #[.int .i64 o.level, .int .u64 (o.cats.toNat : Int)]] (xAW call54 rfl rfl rfl) ((Below_c au).mono ?_); rintro _ bx ⟨a8, rfl, ad⟩; have aw := ar.trans (ad.mono (Nat.le_trans hB0 ar.size)); have aI := a4.step ad; have aJ := a5.trans (ad.mono (Nat.le_trans hB0 ar.size)); have a9 := Gle.trans a7 ad.le; have ba := aH.mono ad.le; have aK := ad.has; refine mv ?_
   cases aL : (decide (belowL a.label o)) with
   | true =>
    have bz : belowL a.label o := of_decide_eq_true aL; refine mv ?_; refine mv ?_; refine vl (.agg #[.int .i64 a.id, .int .i64 a.label.level, .int .u64 (a.label.cats.toNat : Int), .bool a.anchor, .string a.line.text, .bool a.line.bare]) (xAY isAgg37 sizeOf37 ba rfl aK) ?_; have bb := hJ _ _ _ _ _ hj aI
    have bc : (seenP (l.take k) o ++ [(k, a)]) <+: seenP l o := by
     have h := seenP_prefix (l := l) (o := o) (k + 1); rwa [seenP_take (by assumption), if_pos (by assumption)] at h
    refine FWl.yield2 rfl rfl rfl rfl rfl rfl ((hy _ (k, a) _ _ bc aK a9 (Nat.le_trans hB0 aw.size) bb).mono ?_); rintro _ be ⟨aM, ak, ⟨rfl, bf⟩ | ⟨rfl, bg⟩⟩
    ·have bA := aw.trans ak; have bh := aJ.trans ak; have bi := ak.has; have bj := Ext.refl (B := be.heap.size) bi; refine vi (r_not (b := true) rfl) ?_; refine pkT ?_; refine nl (ac _ _ ?_); clear ac K6; refine xAK false rfl (fun h => nomatch h) (fun _ => ?_); refine xAH (ah _ _ ?_); clear ah K4; refine xAA rfl ?_; refine vi (xAX rfl rfl (by omega) (by omega)) ?_; refine mv ?_; refine nl (xAG (?_)); have aN := hJ _ _ _ _ _ bf bj; refine ⟨_, ⟨aM, k + 1, ⟨rfl, rfl, rfl, rfl, rfl, rfl, trivial⟩, bh, by omega, (by rw [seenP_take (by assumption)]; first | (rw [if_pos (by assumption)]; exact aN) | (rw [if_neg (by assumption), List.append_nil]; exact aN)), rfl⟩, ?_⟩; omega
    ·have bk := aw.trans ak; refine vi (r_not (b := false) rfl) ?_; refine pkT ?_; refine nl (ac _ _ ?_); clear ac K6; refine xAK true rfl (fun _ => ?_) (fun h => nomatch h); refine xAQ (xAN (xAE (xAE (xAN (?_))))); refine xAj  results77 (.inl rfl) ?_; exact ⟨aM, bk, .inr bg⟩
   | false =>
    have bB : ¬ (belowL a.label o) := of_decide_eq_false aL; refine sp ?_; refine sp ?_; refine sp ?_; refine sp ?_; refine sp ?_; refine pkF ?_; refine nl (ac _ _ ?_); clear ac K6; refine xAK false rfl (fun h => nomatch h) (fun _ => ?_); refine xAH (ah _ _ ?_); clear ah K4; refine xAA rfl ?_; refine vi (xAX rfl rfl (by omega) (by omega)) ?_; refine mv ?_; refine nl (xAG (?_)); have aO := hJ _ _ _ _ _ hj aI; refine ⟨_, ⟨a8, k + 1, ⟨rfl, rfl, rfl, rfl, rfl, rfl, trivial⟩, aJ, by omega, (by rw [seenP_take (by assumption)]; first | (rw [if_pos (by assumption)]; exact aO) | (rw [if_neg (by assumption), List.append_nil]; exact aO)), rfl⟩, ?_⟩; omega
  ·have bC : ¬ ((k : Int) < ((l.length : Nat) : Int)) := of_decide_eq_false an; refine xAc (xAC (xAC (xAM (?_)))); refine xAj  results77 (.inr rfl) ?_; have aP := hJ _ _ _ _ _ hj am; rw [List.take_of_length_le (by omega)] at aP; exact ⟨C2, ae, .inl aP⟩
theorem seen_it {gl go c : Nat} {A : Option Addr} {l : List Item} {o : Label} {C : Gh} (hl : CellsG C (some ⟨gl, 0, none⟩) 0 [.slice A l.length c]) (ho : CellsG C (some ⟨go, 0, none⟩) 0 [.int .i64 o.level, .int .u64 (o.cats.toNat : Int)]) (hs : Sl kItem C A c l) : Iter prog 77 #[.pointer (some ⟨gl, 0, none⟩), .pointer (some ⟨go, 0, none⟩)] encI (seenP l o) C :=
  fun B lo J Jx w1 C1 hH hle hB hJ hJx hy h0 => seen_r hH hB (hl.mono hle) (ho.mono hle) (hs.mono hle) hJ hJx hy h0
theorem seen_c {A : Option Addr} {c : Nat} {l : List Item} {o : Label} {w : World} {C : Gh} (hH : Has w C) (hs : Sl kItem C A c l) : Ret prog 36 #[.slice A l.length c, .agg #[.int .i64 o.level, .int .u64 (o.cats.toNat : Int)]] w fun v w' => ∃ (C' : Gh) (gl go : Nat), v = .func (.func 77) #[] #[.pointer (some ⟨gl, 0, none⟩), .pointer (some ⟨go, 0, none⟩)] ∧ Ext w.heap.size w C w' C' ∧ Iter prog 77 #[.pointer (some ⟨gl, 0, none⟩), .pointer (some ⟨go, 0, none⟩)] encI (seenP l o) C' := by
 refine Ret.of func36 rfl ntmps36 rfl ?_; have hE := Ext.refl (B := w.heap.size) hH; refine rg fun K1 ad => ?_; refine xAh (cs := [.slice A l.length c]) rfl rfl rfl rfl rfl hH ?_; intro a w2 ae e4 an; have aE := Nat.le_trans hE.size (Nat.le_of_eq an); have ag := hE.step e4; have ao := e4.has; have aF := ae.lt; obtain ⟨C8, m9, ap⟩ := ae.commit ao; have ah := ag.trans (m9.ext ag.size (by omega)); have aq := m9.has; have ar := hs.mono m9.le; refine xAh (cs := [.int .i64 o.level, .int .u64 (o.cats.toNat : Int)]) rfl rfl rfl rfl rfl aq ?_; intro ab aH ai aj au; have aI := Nat.le_trans ah.size (Nat.le_of_eq au); have ak := ah.step aj; have av := aj.has; have aJ := ai.lt; obtain ⟨aw, ac, ax⟩ := ai.commit av; have ay := ak.trans (ac.ext ak.size (by omega)); have aA := ar.mono ac.le; have aB := ap.mono ac.le; refine az ?_; refine nl (ad _ _ ?_); clear ad K1; refine rg fun K2 al => ?_; refine vl (.func (.func 77) #[] #[.pointer (some ⟨a, 0, none⟩), .pointer (some ⟨ab, 0, none⟩)]) (r_makeFunc2 rfl rfl) ?_; refine az ?_; refine nl (al _ _ ?_); clear al K2; refine xAQ (?_); refine xAS (v := Value.func (.func 77) #[] #[.pointer (some ⟨a, 0, none⟩), .pointer (some ⟨ab, 0, none⟩)]) results36 (.inl rfl) rfl ?_; exact ⟨aw, a, ab, rfl, ay, seen_it aB ax aA⟩
theorem Cut_c {A : Option Addr} {c : Nat} {l : List Item} {o : Label} {w : World} {C : Gh} (hH : Has w C) (hs : Sl kItem C A c l) (hn : l.length ≤ 1000) : Ret prog 7 #[.slice A l.length c, .agg #[.int .i64 o.level, .int .u64 (o.cats.toNat : Int)]] w fun v w' => ∃ (C' : Gh) (A' : Option Addr) (c' : Nat), v = Value.slice A' ((cutL l o).length) c' ∧ Ext w.heap.size w C w' C' ∧ Sl kItem C' A' c' (cutL l o) := by
 refine Ret.ofM func7 rfl ntmps7 rfl ?_; have hE := Ext.refl (B := w.heap.size) hH; have bU := hs.bd; refine FM.seq_k fun K1 aD => ?_; refine xAA rfl ?_; refine xAh (cs := [.int .i64 o.level, .int .u64 (o.cats.toNat : Int)]) rfl rfl rfl rfl rfl hH ?_; intro g1 w2 aG e4 a7; have bV := Nat.le_trans hE.size (Nat.le_of_eq a7); have aI := hE.step e4; have a8 := e4.has; have bW := aG.lt; obtain ⟨C8, m9, a9⟩ := aG.commit a8; have aJ := aI.trans (m9.ext aI.size (by omega)); have b := m9.has; have ba := hs.mono m9.le; refine az ?_; refine nl (aD _ _ ?_); clear aD K1; refine FM.seq_k fun K2 aK => ?_; refine xAA rfl ?_; refine xAb (cs := [.slice none 0 0]) rfl rfl rfl zeroValue26 rfl b ?_; intro an bY aL aM bc; have bZ := Nat.le_trans aJ.size (Nat.le_of_eq bc); have be := aJ.step aM; have aN := aM.has; have b0 := aL.lt; refine nl (aK _ _ ?_); clear aK K2; refine FM.seq2_k fun K3 aO => ?_; refine xAA rfl ?_; refine mv ?_; refine vl (.agg #[.int .i64 o.level, .int .u64 (o.cats.toNat : Int)]) (xAY isAgg29 sizeOf29 a9 rfl aN) ?_; refine xAD 10 rfl rfl 36 #[.slice A l.length c, .agg #[.int .i64 o.level, .int .u64 (o.cats.toNat : Int)]] (xAW call36 rfl rfl rfl) ((seen_c (o := o) aN ba).mono ?_); rintro _ bg ⟨b1, aP, aQ, rfl, ao, bh⟩; have ap := be.step ao; have bi := aL.call ao; have bj := ao.has; refine nl (aO _ _ ?_); clear aO K3; have b2 : w.heap.size ≤ bg.heap.size := ap.size; refine FM.range (encs := encI) (xs := (seenP l o)) (B := w.heap.size) rfl call77 bh bj ap.size (fun _ => rfl) rfl (fun qs w' C' => ∃ (A' : Option Addr) (c' : Nat), Ext (w.heap.size) w C w' C' ∧ (St w' C' an [.slice A' (qs.map (·.2)).length c'] 26) ∧ (Sl kItem C' A' c' (qs.map (·.2))) ∧ (Own w.heap.size 37 6 w' C' A' (qs.map (·.2)).length c')) ?_ ?_ ?_ ?_ ?_
 ·rintro qs w1 C1 w2 C2 ⟨A', c', ai, sto, hso, oo⟩ e; exact ⟨A', c', ai.step e, sto.call e, hso.mono e.le, oo.call e⟩
 ·rintro qs w1 C1 w2 g o hg ⟨A', c', ai, sto, hso, oo⟩ ho m; exact ⟨A', c', ai.trans (m.ext ai.size hg), sto.other m (fun e => ho.ne_st sto e.symm), hso, oo.mut m (oo.nbO ho)⟩
 ·exact ⟨none, 0, ap, bi, Sl.nil _ _ _ _, Own.nil⟩
 ·rintro lo dl qs p w1 C1 r o2 hpre aj bk b5 hlo hdl hld hol hod ⟨A', c', ad, sto, hso, oo⟩; refine xAi (l := [(0, .slice A l.length c), (1, .agg #[.int .i64 o.level, .int .u64 (o.cats.toNat : Int)]), (3, .pointer (some ⟨g1, 0, none⟩)), (4, .slice none 0 0), (5, .pointer (some ⟨an, 0, none⟩)), (8, .slice A l.length c), (9, .agg #[.int .i64 o.level, .int .u64 (o.cats.toNat : Int)]), (10, .func (.func 77) #[] #[.pointer (some ⟨aP, 0, none⟩), .pointer (some ⟨aQ, 0, none⟩)]), (11, .int .i64 (p.1 : Int)), (12, .agg #[.int .i64 p.2.id, .int .i64 p.2.label.level, .int .u64 (p.2.label.cats.toNat : Int), .bool p.2.anchor, .string p.2.line.text, .bool p.2.line.bare])]) ⟨rfl, rfl, rfl, rfl, rfl, rfl, rfl, rfl, rfl, rfl, trivial⟩ fun bl => ?_; have bm := sto.lt; have aR := Ext.refl (B := w.heap.size) aj; have b6 := hol.lt; have bn := hod.lt; have hql := hpre.length_le; have hsl := seenF_len o l 0; rw [List.length_append] at hql; unfold seenP at hql; have hqm : (qs.map (·.2)).length = qs.length := List.length_map _; refine xAA rfl ?_; refine xAb (cs := [.int .i64 0, .int .i64 0, .int .u64 0, .bool false, .string ByteArray.empty, .bool false]) rfl rfl rfl zeroValue37 rfl aj ?_; intro b7 b8 ag ab ar; have b9 := Nat.le_trans ad.size (Nat.le_of_eq ar); have ca := Nat.le_trans aR.size (Nat.le_of_eq ar); have au := ad.step ab; have bo := aR.trans (ab.mono ad.size); have sto_43 := sto.call ab; have aS := hol.call ab; have aT := hod.call ab; have oo_46 := oo.call ab; have bp := ab.has; have cb := ag.lt; have aU := oo.nb (Nat.le_of_eq ar); refine xAP (vs := [.int .i64 p.2.id, .int .i64 p.2.label.level, .int .u64 (p.2.label.cats.toNat : Int), .bool p.2.anchor, .string p.2.line.text, .bool p.2.line.bare]) (cs' := [.int .i64 p.2.id, .int .i64 p.2.label.level, .int .u64 (p.2.label.cats.toNat : Int), .bool p.2.anchor, .string p.2.line.text, .bool p.2.line.bare]) rfl rfl rfl sizeOf37 rfl ag bp rfl rfl rfl rfl rfl rfl ?_
  intro cc ac ak; have av := au.trans (ac.ext au.size (by omega)); have bq := bo.trans (ac.ext au.size (by omega)); have sto_54 := sto_43.other ac (sto_43.ne_type ag (by decide)); have aV := aS.other ac (aS.ne_st ag); have aW := aT.other ac (aT.ne_st ag); have oo_57 := oo_46.mut ac aU; have br := ac.has; obtain ⟨cd, a, bs⟩ := ak.commit br; have aw := av.trans (a.ext av.size (by omega)); have bu := bq.trans (a.ext av.size (by omega)); have sto_64 := sto_54.other a (sto_54.ne_type ak (by decide)); have al := aV.other a (aV.ne_st ak); have bv := aW.other a (aW.ne_st ak); have oo_67 := oo_57.mut a aU; have bw := a.has; have bx := hso.mono a.le; refine nl (xAG ⟨al.blk, ?_⟩); obtain ⟨ae, bz⟩ := al.turn bw (.loop (busy r)) rfl; generalize World.putObj _ _ (Obj.loop (busy r)) = ce at *; have aX := aw.trans (ae.ext aw.size (by omega)); have bA := bu.trans (ae.ext aw.size (by omega)); have sto_78 := sto_64.other ae (fun e => al.ne_st sto_64 e.symm); have bB := bv.other ae (by omega); have oo_80 := oo_67.mut ae (oo_67.nbO al); have aY := ae.has; refine xAI ?_; refine xAA rfl ?_; refine vi (xAV isAgg26 rfl (sto_78.cell rfl)) ?_; refine vl (.agg #[.int .i64 p.2.id, .int .i64 p.2.label.level, .int .u64 (p.2.label.cats.toNat : Int), .bool p.2.anchor, .string p.2.line.text, .bool p.2.line.bare]) (xAY isAgg37 sizeOf37 bs rfl aY) ?_; refine FWl.lit (K := kItem) (xs := [p.2]) (cs := [.int .i64 p.2.id, .int .i64 p.2.label.level, .int .u64 (p.2.label.cats.toNat : Int), .bool p.2.anchor, .string p.2.line.text, .bool p.2.line.bare]) rfl rfl rfl underlying26 info37 zero37 rfl (by kernel_rfl) (.cons (cs := [.int .i64 p.2.id, .int .i64 p.2.label.level, .int .u64 (p.2.label.cats.toNat : Int), .bool p.2.anchor, .string p.2.line.text, .bool p.2.line.bare]) (kItem_mk) .nil) rfl aY ?_
  intro cf cg ch bC aa ci; have aZ := aX.step aa; have bD := bA.trans (aa.mono aX.size); have sto_90 := sto_78.call aa; have a0 := bB.call aa; have a1 := bz.call aa; have oo_93 := oo_80.call aa; have bE := bx.mono aa.le; have bF := aa.has; refine FWl.app (K := kItem) (B := w.heap.size) (xs := (qs.map (·.2))) (ys := [p.2]) (sz := 6) (bytes := 56) rfl rfl rfl underlying26 info37 zero37 rfl rfl rfl rfl rfl rfl rfl bE oo_93 bC bF aZ.size (by simp only [List.length_cons, List.length_nil]; omega) (by simp only [List.length_cons, List.length_nil]; omega) ?_; intro ax ay cj bG bH a2 aA aB; have aC := aZ.trans aA; have bI := bD.trans aA; have sto_110 := sto_90.app aB (oo_93.nbT sto_90 (by decide)); have a3 := a0.app aB (oo_93.nbO a0); have a4 := a1.app aB (oo_93.nbO a1); have bJ := aA.has; refine xAP (vs := [.slice ax (((qs.map (·.2)) ++ ([p.2])).length) ay]) (cs' := [.slice ax (((qs.map (·.2)) ++ ([p.2])).length) ay]) rfl rfl rfl sizeOf26 rfl sto_110 bJ rfl rfl rfl rfl rfl rfl ?_; intro ck af sto_123; have bK := aC.trans (af.ext aC.size (by omega)); have bL := bI.trans (af.ext aC.size (by omega)); have bM := a3.other af (a3.ne_st sto_110); have bN := a4.other af (a4.ne_st sto_110); have bO := a2.mut af (a2.nbT sto_110 (by decide)); have bP := af.has; refine nl (xAL (roundF_normal ?_)); exact ⟨bG, bP, bN, bM, bL, ax, ay, bK, (by rw [List.map_append]; exact sto_123), (by rw [List.map_append]; exact bH), (by rw [List.map_append]; exact bO)⟩
 ·rintro dl w1 C1 hdl aj hEl ⟨A', c', ad, sto, hso, oo⟩ hod; refine xAi (l := [(0, .slice A l.length c), (1, .agg #[.int .i64 o.level, .int .u64 (o.cats.toNat : Int)]), (3, .pointer (some ⟨g1, 0, none⟩)), (4, .slice none 0 0), (5, .pointer (some ⟨an, 0, none⟩)), (8, .slice A l.length c), (9, .agg #[.int .i64 o.level, .int .u64 (o.cats.toNat : Int)]), (10, .func (.func 77) #[] #[.pointer (some ⟨aP, 0, none⟩), .pointer (some ⟨aQ, 0, none⟩)])]) ⟨rfl, rfl, rfl, rfl, rfl, rfl, rfl, rfl, trivial⟩ fun bl => ?_; have bk := hEl.le; rw [show List.map (·.2) (seenP l o) = cutL l o from seenF_cut o l 0] at sto hso oo; have bm := sto.lt; have bn := hod.lt; refine rg fun K4 a5 => ?_; refine vi (xAV isAgg26 rfl (sto.cell rfl)) ?_; refine az ?_; refine nl (a5 _ _ ?_); clear a5 K4; refine xAQ (?_); refine ⟨hod.blk, ?_⟩; obtain ⟨bR, cl⟩ := hod.turn aj (.deferred none) rfl; generalize World.putObj _ _ _ = cm at *; have bT := ad.trans (bR.ext ad.size (by omega)); refine xAS (v := Value.slice A' ((cutL l o).length) c') results7 (.inl rfl) rfl ?_; exact ⟨C1, A', c', rfl, bT, hso⟩

end Go.Proofs.YtlofomkhiefbmaaGreatDoor

set_option maxRecDepth 10000
namespace Go.Proofs.YtlofomkhiefbmaaGreatDoor
open Go.Proofs.Tryz
open Go.RowKit
theorem Has_c {a : Label} {c : Int} {w : World} {C : Gh} (hH : Has w C) : Ret prog 57 #[.agg #[.int .i64 a.level, .int .u64 (a.cats.toNat : Int)], .int .i64 c] w fun v w' => ∃ (C' : Gh), v = Value.bool (decide (hasL a c)) ∧ Ext w.heap.size w C w' C' := by
 refine Ret.of func57 rfl ntmps57 rfl ?_; have hE := Ext.refl (B := w.heap.size) hH; refine rg fun K1 ae => ?_; refine xAh (cs := [.int .i64 a.level, .int .u64 (a.cats.toNat : Int)]) rfl rfl rfl rfl rfl hH ?_; intro g1 w2 af e4 am; have au := Nat.le_trans hE.size (Nat.le_of_eq am); have ah := hE.step e4; have an := e4.has; have av := af.lt; obtain ⟨C8, m9, ao⟩ := af.commit an; have ac := ah.trans (m9.ext ah.size (by omega)); have ap := m9.has; refine az ?_; refine nl (ae _ _ ?_); clear ae K1; refine rg fun K2 aa => ?_; refine mv ?_; refine vi (r_geq rfl rfl) ?_; refine mv ?_
 cases aj : (decide (0 ≤ c)) with
 | true =>
  have aw : 0 ≤ c := of_decide_eq_true aj; refine mv ?_; refine vi (r_leq rfl rfl) ?_; refine pkT ?_; refine mv ?_
  cases ak : (decide (c ≤ 63)) with
  | true =>
   have ax : c ≤ 63 := of_decide_eq_true ak; refine fa 1 rfl underlying29 rfl sizeOf27 ?_; refine vi (xAF isAgg27 ao rfl rfl ap) ?_; refine mv ?_; refine vl (.int .u64 ((a.cats >>> (c).toNat).toNat : Int)) (r_shrU rfl rfl (by omega) (by omega)) ?_; refine vl (.int .u64 (if (a.cats >>> (c).toNat).getLsbD 0 then 1 else 0)) (r_rem2U rfl rfl) ?_; refine vi (r_eql rfl rfl) ?_; refine pkT ?_; refine az ?_; refine nl (aa _ _ ?_); clear aa K2; refine xAQ (?_); refine xAS (v := Value.bool (decide ((if (a.cats >>> (c).toNat).getLsbD 0 then 1 else 0) = 1))) results57 (.inl rfl) rfl ?_; exact ⟨C8, congrArg Value.bool (has_eq (by omega) (by omega)), ac⟩
  | false =>
   have ay : ¬ (c ≤ 63) := of_decide_eq_false ak; refine sp ?_; refine sp ?_; refine sp ?_; refine sp ?_; refine sp ?_; refine sp ?_; refine pkF ?_; refine az ?_; refine nl (aa _ _ ?_); clear aa K2; refine xAQ (?_); refine xAS (v := Value.bool false) results57 (.inl rfl) rfl ?_; exact ⟨C8, congrArg Value.bool (decide_eq_false fun h => by have := h.1; have := h.2.1; omega).symm, ac⟩
 | false =>
  have aA : ¬ (0 ≤ c) := of_decide_eq_false aj; refine sp ?_; refine sp ?_; refine pkF ?_; refine mv ?_; refine sp ?_; refine sp ?_; refine sp ?_; refine sp ?_; refine sp ?_; refine sp ?_; refine pkF ?_; refine az ?_; refine nl (aa _ _ ?_); clear aa K2; refine xAQ (?_); refine xAS (v := Value.bool false) results57 (.inl rfl) rfl ?_; exact ⟨C8, congrArg Value.bool (decide_eq_false fun h => by have := h.1; have := h.2.1; omega).symm, ac⟩
theorem RRight_c {a : Label} {w : World} {C : Gh} (hH : Has w C) : Ret prog 15 #[.agg #[.int .i64 a.level, .int .u64 (a.cats.toNat : Int)]] w fun v w' => ∃ (C' : Gh), v = Value.bool (decide (rightL a)) ∧ Ext w.heap.size w C w' C' := by
 refine Ret.of func15 rfl ntmps15 rfl ?_; have hE := Ext.refl (B := w.heap.size) hH; refine rg fun K1 ab => ?_; refine xAh (cs := [.int .i64 a.level, .int .u64 (a.cats.toNat : Int)]) rfl rfl rfl rfl rfl hH ?_; intro g1 w2 ac e4 an; have ar := Nat.le_trans hE.size (Nat.le_of_eq an); have ae := hE.step e4; have ao := e4.has; have au := ac.lt; obtain ⟨C8, m9, ah⟩ := ac.commit ao; have ai := ae.trans (m9.ext ae.size (by omega)); have aj := m9.has; refine az ?_; refine nl (ab _ _ ?_); clear ab K1; refine rg fun K2 aa => ?_; refine fa 0 rfl underlying29 rfl sizeOf3 ?_; refine vi (xAF isAgg3 ah rfl rfl aj) ?_; refine vi (r_geq rfl rfl) ?_; refine mv ?_
 cases al : (decide (0 ≤ a.level)) with
 | true =>
  have av : 0 ≤ a.level := of_decide_eq_true al; refine fa 0 rfl underlying29 rfl sizeOf3 ?_; refine vi (xAF isAgg3 ah rfl rfl aj) ?_; refine vi (r_lss rfl rfl) ?_; refine pkT ?_; refine az ?_; refine nl (aa _ _ ?_); clear aa K2; refine xAQ (?_); refine xAS (v := Value.bool (decide (a.level < 16))) results15 (.inl rfl) rfl ?_; exact ⟨C8, congrArg Value.bool (decide_eq_decide.2 (by unfold rightL; omega)), ai⟩
 | false =>
  have aw : ¬ (0 ≤ a.level) := of_decide_eq_false al; refine sp ?_; refine sp ?_; refine sp ?_; refine pkF ?_; refine az ?_; refine nl (aa _ _ ?_); clear aa K2; refine xAQ (?_); refine xAS (v := Value.bool false) results15 (.inl rfl) rfl ?_; exact ⟨C8, congrArg Value.bool (decide_eq_false fun h => by have := h.1; omega).symm, ai⟩
theorem RBelow_c {a b : Label} {w : World} {C : Gh} (hH : Has w C) : Ret prog 21 #[.agg #[.int .i64 a.level, .int .u64 (a.cats.toNat : Int)], .agg #[.int .i64 b.level, .int .u64 (b.cats.toNat : Int)]] w fun v w' => ∃ (C' : Gh), v = Value.bool (decide (belowL a b)) ∧ Ext w.heap.size w C w' C' := by
 refine Ret.of func21 rfl ntmps21 rfl ?_; have hE := Ext.refl (B := w.heap.size) hH; refine rg fun K1 am => ?_; refine xAh (cs := [.int .i64 a.level, .int .u64 (a.cats.toNat : Int)]) rfl rfl rfl rfl rfl hH ?_; intro g1 w2 ao e4 aY; have bl := Nat.le_trans hE.size (Nat.le_of_eq aY); have aq := hE.step e4; have aZ := e4.has; have bm := ao.lt; obtain ⟨C8, m9, a0⟩ := ao.commit aZ; have au := aq.trans (m9.ext aq.size (by omega)); have a1 := m9.has; refine xAh (cs := [.int .i64 b.level, .int .u64 (b.cats.toNat : Int)]) rfl rfl rfl rfl rfl a1 ?_; intro av aw ax ay a2; have bo := Nat.le_trans au.size (Nat.le_of_eq a2); have aA := au.step ay; have a3 := ay.has; have bp := ax.lt; obtain ⟨ae, af, aB⟩ := ax.commit a3; have aC := aA.trans (af.ext aA.size (by omega)); have ag := af.has; have aD := a0.mono af.le; refine az ?_; refine nl (am _ _ ?_); clear am K1; refine sk fun K2 aE => ?_; refine rg fun K3 aF => ?_; refine fa 0 rfl underlying29 rfl sizeOf3 ?_; refine vi (xAF isAgg3 aD rfl rfl ag) ?_; refine fa 0 rfl underlying29 rfl sizeOf3 ?_; refine vi (xAF isAgg3 aB rfl rfl ag) ?_; refine vi (r_gtr rfl rfl) ?_; refine nl (aF _ _ ?_); clear aF K3; refine cn (decide (b.level < a.level)) (fun ah => ?_) (fun ah => ?_)
 ·have bq : b.level < a.level := of_decide_eq_true ah; refine rg fun K4 aG => ?_; refine az ?_; refine nl (aG _ _ ?_); clear aG K4; refine xAQ (xAE (?_)); refine xAS (v := Value.bool false) results21 (.inl rfl) rfl ?_; exact ⟨ae, congrArg Value.bool (decide_eq_false (by first | exact not_below (by assumption) (by assumption) | exact fun h => by have := h.1; omega)).symm, aC⟩
 ·have br : ¬ (b.level < a.level) := of_decide_eq_false ah; refine xAH (aE _ _ ?_); clear aE K2; refine sk fun K5 aH => ?_; refine rg fun K6 aI => ?_; refine az ?_; refine nl (aI _ _ ?_); clear aI K6; refine xAI ?_; refine xAl (fun msr T aJ => ∃ (ai : Gh) (k : Nat), Holds T [(0, .agg #[.int .i64 a.level, .int .u64 (a.cats.toNat : Int)]), (1, .agg #[.int .i64 b.level, .int .u64 (b.cats.toNat : Int)]), (2, .pointer (some ⟨g1, 0, none⟩)), (3, .pointer (some ⟨av, 0, none⟩)), (5, .int .i64 (k : Int)), (6, .pointer (some ⟨g1, 0, none⟩)), (7, .int .i64 a.level), (8, .pointer (some ⟨av, 0, none⟩)), (9, .int .i64 b.level), (10, .bool (decide (b.level < a.level)))] ∧ Ext (aw.heap.size) aw ae aJ ai ∧ (k ≤ 64) ∧ (∀ c : Nat, c < k → hasL a c → hasL b c) ∧ msr = 64 - k) (64 - 0) ?_ ?_
  ·exact ⟨ae, 0, ⟨rfl, rfl, rfl, rfl, rfl, rfl, rfl, rfl, rfl, rfl, trivial⟩, Ext.refl ag, Nat.zero_le _, fun c h => by omega, rfl⟩
  ·rintro msr T aJ ⟨ai, k, hT, aa, hk, hall, rfl⟩; refine xAi hT fun B1 => ?_; have aK := aC.step aa; have a9 := aD.mono aa.le; have ba := aB.mono aa.le; have aL := aa.has; refine sk fun K7 aj => ?_; refine rg fun K8 aN => ?_; refine mv ?_; refine vi (r_lss rfl rfl) ?_; refine nl (aN _ _ ?_); clear aN K8; refine cn (decide ((k : Int) < 64)) (fun ak => ?_) (fun ak => ?_)
   ·have bu : (k : Int) < 64 := of_decide_eq_true ak; refine xAH (aj _ _ ?_); clear aj K7; refine sk fun K9 ab => ?_; refine xAI ?_; refine rg fun aP ac => ?_; refine vl (.agg #[.int .i64 a.level, .int .u64 (a.cats.toNat : Int)]) (xAY isAgg29 sizeOf29 a9 rfl aL) ?_; refine mv ?_; refine xAD 17 rfl rfl 57 #[.agg #[.int .i64 a.level, .int .u64 (a.cats.toNat : Int)], .int .i64 (k : Int)] (xAW call57 rfl rfl rfl) ((Has_c aL).mono ?_); rintro _ bv ⟨bc, rfl, ad⟩; have be := aK.step ad; have aQ := aa.step ad; have bf := ba.mono ad.le; have aR := ad.has; refine mv ?_
    cases aS : (decide (hasL a (k : Int))) with
    | true =>
     have bw : hasL a (k : Int) := of_decide_eq_true aS; refine vl (.agg #[.int .i64 b.level, .int .u64 (b.cats.toNat : Int)]) (xAY isAgg29 sizeOf29 bf rfl aR) ?_; refine mv ?_; refine xAD 21 rfl rfl 57 #[.agg #[.int .i64 b.level, .int .u64 (b.cats.toNat : Int)], .int .i64 (k : Int)] (xAW call57 rfl rfl rfl) ((Has_c aR).mono ?_); rintro _ bx ⟨aT, rfl, aU⟩; have bg := be.step aU; have bh := aQ.step aU; refine vi (r_not rfl) ?_; refine pkT ?_; refine nl (ac _ _ ?_); clear ac aP; refine cn (!(decide (hasL b (k : Int)))) (fun al => ?_) (fun al => ?_)
     ·have bz : ¬ (hasL b (k : Int)) := (by simpa using al); refine rg fun bi aV => ?_; refine az ?_; refine nl (aV _ _ ?_); clear aV bi; refine xAQ (xAN (xAE (xAE (xAN (xAE (?_)))))); refine xAS (v := Value.bool false) results21 (.inl rfl) rfl ?_; exact ⟨aT, congrArg Value.bool (decide_eq_false (by first | exact not_below (by assumption) (by assumption) | exact fun h => by have := h.1; omega)).symm, bg⟩
     ·have bA : hasL b (k : Int) := (by simpa using al); refine xAH (ab _ _ ?_); clear ab K9; refine xAA rfl ?_; refine mv ?_; refine vi (xAX rfl rfl (by omega) (by omega)) ?_; refine az ?_; refine nl (xAG (?_))
      refine ⟨_, ⟨aT, k + 1, ⟨rfl, rfl, rfl, rfl, rfl, rfl, rfl, rfl, rfl, rfl, trivial⟩, bh, by omega, fun c hc ha => by
       rcases Nat.lt_succ_iff_lt_or_eq.1 hc with h | h
       ·exact hall c h ha
       ·subst h; first | assumption | (exfalso; exact absurd ha (by assumption)), rfl⟩, ?_⟩
      omega
    | false =>
     have bB : ¬ (hasL a (k : Int)) := of_decide_eq_false aS; refine sp ?_; refine sp ?_; refine sp ?_; refine sp ?_; refine pkF ?_; refine nl (ac _ _ ?_); clear ac aP; refine xAK false rfl (fun h => nomatch h) (fun _ => ?_); refine xAH (ab _ _ ?_); clear ab K9; refine xAA rfl ?_; refine mv ?_; refine vi (xAX rfl rfl (by omega) (by omega)) ?_; refine az ?_; refine nl (xAG (?_))
     refine ⟨_, ⟨bc, k + 1, ⟨rfl, rfl, rfl, rfl, rfl, rfl, rfl, rfl, rfl, rfl, trivial⟩, aQ, by omega, fun c hc ha => by
      rcases Nat.lt_succ_iff_lt_or_eq.1 hc with h | h
      ·exact hall c h ha
      ·subst h; first | assumption | (exfalso; exact absurd ha (by assumption)), rfl⟩, ?_⟩
     omega
   ·have bC : ¬ ((k : Int) < 64) := of_decide_eq_false ak; refine xAc (xAC (xAC (xAM (aH _ _ ?_)))); clear aH K5 aj K7; refine rg fun bj aW => ?_; refine az ?_; refine nl (aW _ _ ?_); clear aW bj; refine xAQ (?_); refine xAS (v := Value.bool true) results21 (.inl rfl) rfl ?_; exact ⟨ai, congrArg Value.bool (decide_eq_true (below_of (by omega) (k := k) (by omega) hall)).symm, aK⟩
theorem RCats_c {a : Label} {w : World} {C : Gh} (hH : Has w C) : Ret prog 37 #[.agg #[.int .i64 a.level, .int .u64 (a.cats.toNat : Int)]] w fun v w' => ∃ (C' : Gh) (A' : Option Addr) (c' : Nat), v = Value.slice A' ((catsI a.cats 64).length) c' ∧ Ext w.heap.size w C w' C' ∧ Sl (kInt .i64) C' A' c' (catsI a.cats 64) := by
 refine Ret.of func37 rfl ntmps37 rfl ?_; have hE := Ext.refl (B := w.heap.size) hH; refine rg fun K1 ak => ?_; refine xAh (cs := [.int .i64 a.level, .int .u64 (a.cats.toNat : Int)]) rfl rfl rfl rfl rfl hH ?_; intro g1 w2 al e4 aJ; have bc := Nat.le_trans hE.size (Nat.le_of_eq aJ); have an := hE.step e4; have aK := e4.has; have be := al.lt; obtain ⟨C8, m9, aL⟩ := al.commit aK; have aM := an.trans (m9.ext an.size (by omega)); have aN := m9.has; refine az ?_; refine nl (ak _ _ ?_); clear ak K1; refine rg fun K2 aq => ?_; refine FWl.lit0 rfl rfl rfl runUnderlying46 sizeOf3 aN ?_; intro ar aP au; have aQ := aM.step au; have aR := au.has; refine az ?_; refine nl (aq _ _ ?_); clear aq K2; refine sk fun K3 av => ?_; refine rg fun K4 aw => ?_; refine az ?_; refine nl (aw _ _ ?_); clear aw K4; refine xAI ?_; refine xAl (fun msr T af => ∃ (aa : Gh) (k : Nat) (Ao : Option Addr) (co : Nat) (out : List Int), Holds T [(0, .agg #[.int .i64 a.level, .int .u64 (a.cats.toNat : Int)]), (1, .pointer (some ⟨g1, 0, none⟩)), (2, .slice none 0 0), (3, .slice Ao out.length co), (4, .int .i64 (k : Int)), (5, .slice (some ar) 0 0)] ∧ Ext (w.heap.size) aP C8 af aa ∧ (k ≤ 64) ∧ (Sl (kInt .i64) aa Ao co out) ∧ (Own w.heap.size 3 1 af aa Ao out.length co) ∧ (out = catsI a.cats k) ∧ msr = 64 - k) (64 - 0) ?_ ?_
 ·exact ⟨C8, 0, (some ar), 0, [], ⟨rfl, rfl, rfl, rfl, rfl, rfl, trivial⟩, Ext.refl aR, Nat.zero_le _, Sl.nil _ _ _ _, Own.full, rfl, rfl⟩
 ·rintro msr T af ⟨aa, k, Ao, co, out, hT, ad, hk, hso, oo, hout, rfl⟩; refine xAi hT fun B1 => ?_; have ag := aQ.trans ad; have aU := aL.mono ad.le; have ax := ad.has; have hcl := catsI_len a.cats k; rw [← hout] at hcl; refine sk fun K5 ah => ?_; refine rg fun K6 aA => ?_; refine mv ?_; refine vi (r_lss rfl rfl) ?_; refine nl (aA _ _ ?_); clear aA K6; refine cn (decide ((k : Int) < 64)) (fun ai => ?_) (fun ai => ?_)
  ·have bg : (k : Int) < 64 := of_decide_eq_true ai; refine xAH (ah _ _ ?_); clear ah K5; refine sk fun K7 ae => ?_; refine xAI ?_; refine rg fun K8 aC => ?_; refine vl (.agg #[.int .i64 a.level, .int .u64 (a.cats.toNat : Int)]) (xAY isAgg29 sizeOf29 aU rfl ax) ?_; refine mv ?_; refine xAD 12 rfl rfl 57 #[.agg #[.int .i64 a.level, .int .u64 (a.cats.toNat : Int)], .int .i64 (k : Int)] (xAW call57 rfl rfl rfl) ((Has_c ax).mono ?_); rintro _ bh ⟨aX, rfl, ab⟩; have aD := ag.step ab; have aE := ad.trans (ab.mono ag.size); have oo_31 := oo.call ab; have aF := hso.mono ab.le; have aY := ab.has; refine nl (aC _ _ ?_); clear aC K8; refine cn (decide (hasL a (k : Int))) (fun aj => ?_) (fun aj => ?_)
   ·have bi : hasL a (k : Int) := of_decide_eq_true aj; refine xAA rfl ?_; refine mv ?_; refine mv ?_; refine FWl.lit (K := kInt .i64) (xs := [(k : Int)]) (cs := [.int .i64 (k : Int)]) rfl rfl rfl underlying46 info3 zero3 rfl (by kernel_rfl) (.cons (cs := [.int .i64 (k : Int)]) rfl .nil) rfl aY ?_; intro bj bk bl aZ ac bm; have a0 := aD.step ac; have a1 := aE.trans (ac.mono aD.size); have oo_45 := oo_31.call ac; have a2 := aF.mono ac.le; have a3 := ac.has; refine FWl.app (K := kInt .i64) (B := w.heap.size) (xs := out) (ys := [(k : Int)]) (sz := 1) (bytes := 8) rfl rfl rfl underlying46 info3 zero3 rfl rfl rfl rfl rfl rfl rfl a2 oo_45 aZ a3 a0.size (by simp only [List.length_cons, List.length_nil]; omega) (by simp only [List.length_cons, List.length_nil]; omega) ?_; intro a4 a5 bn a6 a7 a8 a9 bo; have b := a1.trans a9; refine az ?_; refine nl (ae _ _ ?_); clear ae K7; refine xAA rfl ?_; refine mv ?_; refine vi (xAX rfl rfl (by omega) (by omega)) ?_; refine az ?_; refine nl (xAG (?_)); refine ⟨_, ⟨a6, k + 1, a4, a5, out ++ ([(k : Int)]), ⟨rfl, rfl, rfl, rfl, rfl, rfl, trivial⟩, b, by omega, a7, a8, cats_yes hout (by assumption), rfl⟩, ?_⟩; omega
   ·have bp : ¬ (hasL a (k : Int)) := of_decide_eq_false aj; refine xAH (ae _ _ ?_); clear ae K7; refine xAA rfl ?_; refine mv ?_; refine vi (xAX rfl rfl (by omega) (by omega)) ?_; refine az ?_; refine nl (xAG (?_)); refine ⟨_, ⟨aX, k + 1, Ao, co, out, ⟨rfl, rfl, rfl, rfl, rfl, rfl, trivial⟩, aE, by omega, aF, oo_31, cats_no hout (by omega) (by assumption), rfl⟩, ?_⟩; omega
  ·have bq : ¬ ((k : Int) < 64) := of_decide_eq_false ai; refine xAc (xAC (xAC (xAM (av _ _ ?_)))); clear av K3 ah K5; refine rg fun K9 aG => ?_; refine mv ?_; refine az ?_; refine nl (aG _ _ ?_); clear aG K9; refine xAQ (?_); refine xAS (v := Value.slice Ao out.length co) results37 (.inl rfl) rfl ?_; obtain rfl : k = 64 := (by omega); subst hout; exact ⟨aa, Ao, co, rfl, ag, hso⟩
theorem RFits_c {lv ct p2 p3 p4 p5 : Int} {p6 : ByteArray} {A7 A8 : Option Addr} {n7 k7 n8 k8 : Nat} {a : Label} {w : World} {C : Gh} (hH : Has w C) : Ret prog 8 #[.agg #[.int .i64 lv, .int .i64 ct, .int .i64 p2, .int .i64 p3, .int .i64 p4, .int .i64 p5, .string p6, .slice A7 n7 k7, .slice A8 n8 k8], .agg #[.int .i64 a.level, .int .u64 (a.cats.toNat : Int)]] w fun v w' => ∃ (C' : Gh), v = Value.bool (decide (fitsL lv ct a)) ∧ Ext w.heap.size w C w' C' := by
 refine Ret.of func8 rfl ntmps8 rfl ?_; have hE := Ext.refl (B := w.heap.size) hH; refine rg fun K1 av => ?_; refine xAh (cs := [.int .i64 lv, .int .i64 ct, .int .i64 p2, .int .i64 p3, .int .i64 p4, .int .i64 p5, .string p6, .slice A7 n7 k7, .slice A8 n8 k8]) rfl rfl rfl rfl rfl hH ?_; intro g1 w2 ax e4 aW; have bb := Nat.le_trans hE.size (Nat.le_of_eq aW); have aA := hE.step e4; have aX := e4.has; have bc := ax.lt; obtain ⟨C8, m9, aY⟩ := ax.commit aX; have aC := aA.trans (m9.ext aA.size (by omega)); have aZ := m9.has; refine xAh (cs := [.int .i64 a.level, .int .u64 (a.cats.toNat : Int)]) rfl rfl rfl rfl rfl aZ ?_; intro bf bg aD aE a0; have bh := Nat.le_trans aC.size (Nat.le_of_eq a0); have aF := aC.step aE; have a1 := aE.has; have bi := aD.lt; obtain ⟨aG, al, am⟩ := aD.commit a1; have an := aF.trans (al.ext aF.size (by omega)); have ae := al.has; have aH := aY.mono al.le; refine az ?_; refine nl (av _ _ ?_); clear av K1; refine sk fun K2 aI => ?_; refine rg fun K3 ag => ?_; refine fa 0 rfl underlying29 rfl sizeOf3 ?_; refine vi (xAF isAgg3 am rfl rfl ae) ?_; refine vi (r_lss rfl rfl) ?_; refine mv ?_
 cases aK : (decide (a.level < 0)) with
 | true =>
  have bj : a.level < 0 := of_decide_eq_true aK; refine sp ?_; refine sp ?_; refine sp ?_; refine sp ?_; refine sp ?_; refine pkT ?_; refine nl (ag _ _ ?_); clear ag K3; refine xAK true rfl (fun _ => ?_) (fun h => nomatch h); refine rg fun K4 aL => ?_; refine az ?_; refine nl (aL _ _ ?_); clear aL K4; refine xAQ (xAE (?_)); refine xAS (v := Value.bool false) results8 (.inl rfl) rfl ?_; exact ⟨aG, congrArg Value.bool (by unfold fitsL; first | (symm; apply decide_eq_false; rintro ⟨h1, h2, h3, h4⟩; omega) | (symm; apply decide_eq_true; refine ⟨by omega, by omega, by omega, fun c hc ha => ?_⟩; rw [catsI_nil (by omega) c hc] at ha; cases ha) | (refine decide_eq_decide.2 ?_; rw [hcl]; omega)), an⟩
 | false =>
  have bk : ¬ (a.level < 0) := of_decide_eq_false aK; refine fa 0 rfl underlying29 rfl sizeOf3 ?_; refine vi (xAF isAgg3 am rfl rfl ae) ?_; refine fa 0 rfl underlying25 rfl sizeOf3 ?_; refine vi (xAF isAgg3 aH rfl rfl ae) ?_; refine vi (r_geq rfl rfl) ?_; refine pkF ?_; refine nl (ag _ _ ?_); clear ag K3; refine cn (decide (lv ≤ a.level)) (fun ao => ?_) (fun ao => ?_)
  ·have bl : lv ≤ a.level := of_decide_eq_true ao; refine rg fun K5 aM => ?_; refine az ?_; refine nl (aM _ _ ?_); clear aM K5; refine xAQ (xAE (?_)); refine xAS (v := Value.bool false) results8 (.inl rfl) rfl ?_; exact ⟨aG, congrArg Value.bool (by unfold fitsL; first | (symm; apply decide_eq_false; rintro ⟨h1, h2, h3, h4⟩; omega) | (symm; apply decide_eq_true; refine ⟨by omega, by omega, by omega, fun c hc ha => ?_⟩; rw [catsI_nil (by omega) c hc] at ha; cases ha) | (refine decide_eq_decide.2 ?_; rw [hcl]; omega)), an⟩
  ·have bm : ¬ (lv ≤ a.level) := of_decide_eq_false ao; refine xAH (aI _ _ ?_); clear aI K2; refine rg fun K6 aN => ?_; refine vl (.agg #[.int .i64 a.level, .int .u64 (a.cats.toNat : Int)]) (xAY isAgg29 sizeOf29 am rfl ae) ?_; refine xAD 17 rfl rfl 37 #[.agg #[.int .i64 a.level, .int .u64 (a.cats.toNat : Int)]] (xAd call37 rfl rfl) ((RCats_c ae).mono ?_); rintro _ af ⟨ab, a6, bn, rfl, ap, aO⟩; have a7 := an.step ap; have aP := aH.mono ap.le; have a8 := ap.has; have bo := catsI_len a.cats 64; refine az ?_; refine nl (aN _ _ ?_); clear aN K6; refine sk fun K7 ac => ?_; refine xAT mixed (SS ab (fun _ => True) af.drew) [19] (.one 0 (.one 1 (.one 2 (.one 3 (.one 4 (.one 5 (.one 6 (.one 7 (.pure 8 (.pure 9 (.take 10 (.pure 11 (.pure 12 (.take 13 (.one 14 (.one 15 (.one 16 (.one 17 (.one 18 (.one 19 .done)))))))))))))))))))) rfl (by kernel_rfl) ?_; have aQ : Ext af.heap.size af ab af.drew ab := (Ext.refl a8).drew; generalize af.drew = aR at *; have ar := a7.step aQ; have au := aQ.has; have aa : SS ab (fun _ => True) aR aR := SS.refl au; have bp := Gle.refl ab; refine ws rfl (.pointer (some ⟨g1, 1, none⟩)) (xAB underlying25 rfl sizeOf3 rfl rfl rfl rfl) (.inr aa) ?_; refine wi rfl (xAF isAgg3 aP rfl rfl au) (.inr aa) ?_; refine wi rfl (r_geq rfl rfl) (.inr aa) ?_; refine wm (.inr aa) ?_
   cases aS : (decide (0 ≤ ct)) with
   | true =>
    have bq : 0 ≤ ct := of_decide_eq_true aS; refine wm (.inr aa) ?_; refine wi rfl (xAR underlying46 rfl) (.inr aa) ?_; refine wi rfl (r_eql rfl rfl) (.inr aa) ?_; refine wm (.inr aa) ?_
    cases aT : (decide ((((catsI a.cats 64).length : Nat) : Int) = 0)) with
    | true =>
     have br : (((catsI a.cats 64).length : Nat) : Int) = 0 := of_decide_eq_true aT; refine pz ?_; refine pz ?_; refine xAa rfl 28 rfl rfl aa ?_; refine pz ?_; refine pz ?_; refine xAa rfl 31 rfl rfl aa ?_; refine xAO rfl 32 rfl rfl (.inr aa) ?_; refine xAO rfl 33 rfl rfl (.inr aa) ?_; refine xAO rfl 34 rfl rfl (.inr aa) ?_; refine ws rfl (.bool true) (xAy (t := true) rfl) (.inr aa) ?_; refine ws rfl (.bool true) (xAy (t := true) rfl) (.inr aa) ?_; refine ws rfl (.bool true) (xAo) (.inl rfl) ?_; refine xAf (ac _ _ ?_); clear ac K7; refine xAQ (?_); refine xAS (v := Value.bool true) results8 (.inl rfl) rfl ?_; exact ⟨ab, congrArg Value.bool (by unfold fitsL; first | (symm; apply decide_eq_false; rintro ⟨h1, h2, h3, h4⟩; omega) | (symm; apply decide_eq_true; refine ⟨by omega, by omega, by omega, fun c hc ha => ?_⟩; rw [catsI_nil (by omega) c hc] at ha; cases ha) | (refine decide_eq_decide.2 ?_; rw [hcl]; omega)), ar⟩
    | false =>
     have bs : ¬ ((((catsI a.cats 64).length : Nat) : Int) = 0) := of_decide_eq_false aT; refine pm ?_; refine pm ?_; refine tk rfl (.int .i64 (((catsI a.cats 64).length : Nat) : Int)) aa (fun _ _ => xAR underlying46 rfl) ?_; refine pu rfl (.int .i64 ((((catsI a.cats 64).length : Nat) : Int) - 1)) (fun _ => xAx rfl rfl (by omega) (by omega)) ?_; obtain ⟨ad, aU⟩ := xAe (xs := (catsI a.cats 64)) (j := ((((catsI a.cats 64).length : Nat) : Int) - 1).toNat) (by omega); obtain ⟨bu, a9, b⟩ := aO.at_ _ _ aU; obtain rfl := a9; have hcl := catsI_last (z := ad) (by have := aU; rwa [show ((((catsI a.cats 64).length : Nat) : Int) - 1).toNat = (catsI a.cats 64).length - 1 by omega] at this) ct; refine pu rfl (ptrAt a6 (((((catsI a.cats 64).length : Nat) : Int) - 1).toNat * 1)) (fun _ => xAJ underlying46 sizeOf3 rfl rfl (aO.isSome (by omega)) (by omega) (by omega)) ?_; refine tk rfl (.int .i64 ad) aa (fun _ hS' => xAv (i := 0) isAgg3 b rfl rfl hS'.has) ?_; refine ws rfl (.pointer (some ⟨g1, 1, none⟩)) (xAB underlying25 rfl sizeOf3 rfl rfl rfl rfl) (.inr aa) ?_; refine wi rfl (xAF isAgg3 aP rfl rfl au) (.inr aa) ?_; refine wi rfl (r_lss rfl rfl) (.inr aa) ?_; refine ws rfl (.bool (decide (ad < ct))) (xAy (t := false) rfl) (.inr aa) ?_; refine ws rfl (.bool (decide (ad < ct))) (xAy (t := true) rfl) (.inr aa) ?_; refine ws rfl (.bool (decide (ad < ct))) (xAo) (.inl rfl) ?_; refine xAf (ac _ _ ?_); clear ac K7; refine xAQ (?_); refine xAS (v := Value.bool (decide (ad < ct))) results8 (.inl rfl) rfl ?_; exact ⟨ab, congrArg Value.bool (by unfold fitsL; first | (symm; apply decide_eq_false; rintro ⟨h1, h2, h3, h4⟩; omega) | (symm; apply decide_eq_true; refine ⟨by omega, by omega, by omega, fun c hc ha => ?_⟩; rw [catsI_nil (by omega) c hc] at ha; cases ha) | (refine decide_eq_decide.2 ?_; rw [hcl]; omega)), ar⟩
   | false =>
    have bv : ¬ (0 ≤ ct) := of_decide_eq_false aS; refine xAO rfl 22 rfl rfl (.inr aa) ?_; refine xAO rfl 23 rfl rfl (.inr aa) ?_; refine xAO rfl 24 rfl rfl (.inr aa) ?_; refine xAO rfl 25 rfl rfl (.inr aa) ?_; refine pz ?_; refine pz ?_; refine xAa rfl 28 rfl rfl aa ?_; refine pz ?_; refine pz ?_; refine xAa rfl 31 rfl rfl aa ?_; refine xAO rfl 32 rfl rfl (.inr aa) ?_; refine xAO rfl 33 rfl rfl (.inr aa) ?_; refine xAO rfl 34 rfl rfl (.inr aa) ?_; refine xAO rfl 35 rfl rfl (.inr aa) ?_; refine ws rfl (.bool false) (xAy (t := false) rfl) (.inr aa) ?_; refine ws rfl (.bool false) (xAo) (.inl rfl) ?_; refine xAf (ac _ _ ?_); clear ac K7; refine xAQ (?_); refine xAS (v := Value.bool false) results8 (.inl rfl) rfl ?_; exact ⟨ab, congrArg Value.bool (by unfold fitsL; first | (symm; apply decide_eq_false; rintro ⟨h1, h2, h3, h4⟩; omega) | (symm; apply decide_eq_true; refine ⟨by omega, by omega, by omega, fun c hc ha => ?_⟩; rw [catsI_nil (by omega) c hc] at ha; cases ha) | (refine decide_eq_decide.2 ?_; rw [hcl]; omega)), ar⟩
theorem PFits_c {lv ct p2 p3 p4 p5 : Int} {p6 : ByteArray} {A7 A8 : Option Addr} {n7 k7 n8 k8 : Nat} {a : Label} {w : World} {C : Gh} (hH : Has w C) : Ret prog 141 #[.agg #[.int .i64 lv, .int .i64 ct, .int .i64 p2, .int .i64 p3, .int .i64 p4, .int .i64 p5, .string p6, .slice A7 n7 k7, .slice A8 n8 k8], .agg #[.int .i64 a.level, .int .u64 (a.cats.toNat : Int)]] w fun v w' => ∃ (C' : Gh), v = Value.bool (decide (fitsL lv ct a)) ∧ Ext w.heap.size w C w' C' := by
 refine Ret.of func141 rfl ntmps141 rfl ?_; have hE := Ext.refl (B := w.heap.size) hH; refine rg fun K1 am => ?_; refine xAh (cs := [.int .i64 lv, .int .i64 ct, .int .i64 p2, .int .i64 p3, .int .i64 p4, .int .i64 p5, .string p6, .slice A7 n7 k7, .slice A8 n8 k8]) rfl rfl rfl rfl rfl hH ?_; intro g1 w2 an e4 aD; have aL := Nat.le_trans hE.size (Nat.le_of_eq aD); have ap := hE.step e4; have aE := e4.has; have aM := an.lt; obtain ⟨C8, m9, aF⟩ := an.commit aE; have ar := ap.trans (m9.ext ap.size (by omega)); have aG := m9.has; refine xAh (cs := [.int .i64 a.level, .int .u64 (a.cats.toNat : Int)]) rfl rfl rfl rfl rfl aG ?_; intro aO aP au av aH; have aQ := Nat.le_trans ar.size (Nat.le_of_eq aH); have aw := ar.step av; have aI := av.has; have aR := au.lt; obtain ⟨ag, ak, al⟩ := au.commit aI; have ah := aw.trans (ak.ext aw.size (by omega)); have af := ak.has; have aj := aF.mono ak.le; refine az ?_; refine nl (am _ _ ?_); clear am K1; refine rg fun K2 ab => ?_; refine fa 0 rfl underlying29 rfl sizeOf3 ?_; refine vi (xAF isAgg3 al rfl rfl af) ?_; refine vi (r_geq rfl rfl) ?_; refine mv ?_
 cases ax : (decide (0 ≤ a.level)) with
 | true =>
  have aS : 0 ≤ a.level := of_decide_eq_true ax; refine fa 0 rfl underlying29 rfl sizeOf3 ?_; refine vi (xAF isAgg3 al rfl rfl af) ?_; refine fa 0 rfl underlying25 rfl sizeOf3 ?_; refine vi (xAF isAgg3 aj rfl rfl af) ?_; refine vi (r_lss rfl rfl) ?_; refine pkT ?_; refine mv ?_
  cases ay : (decide (a.level < lv)) with
  | true =>
   have aT : a.level < lv := of_decide_eq_true ay; refine fa 1 rfl underlying25 rfl sizeOf3 ?_; refine vi (xAF isAgg3 aj rfl rfl af) ?_; refine vi (r_gtr rfl rfl) ?_; refine mv ?_
   cases aA : (decide (63 < ct)) with
   | true =>
    have aU : 63 < ct := of_decide_eq_true aA; refine sp ?_; refine sp ?_; refine sp ?_; refine sp ?_; refine sp ?_; refine sp ?_; refine sp ?_; refine sp ?_; refine sp ?_; refine sp ?_; refine sp ?_; refine pkT ?_; refine pkT ?_; refine az ?_; refine nl (ab _ _ ?_); clear ab K2; refine xAQ (?_); refine xAS (v := Value.bool true) results141 (.inl rfl) rfl ?_; exact ⟨ag, congrArg Value.bool (by unfold fitsL; first | (symm; apply decide_eq_false; rintro ⟨h1, h2, h3, h4⟩; omega) | (symm; apply decide_eq_true; exact ⟨by omega, by omega, by omega, fun c hc ha => by omega⟩) | (refine decide_eq_decide.2 ?_; rw [shr_zero]; exact ⟨fun h => ⟨by omega, by omega, by omega, fun c hc ha => by have := h c hc ha; omega⟩, fun ⟨h1, h2, h3, h4⟩ c hc ha => by have := h4 c hc ha; omega⟩)), ah⟩
   | false =>
    have aV : ¬ (63 < ct) := of_decide_eq_false aA; refine fa 1 rfl underlying25 rfl sizeOf3 ?_; refine vi (xAF isAgg3 aj rfl rfl af) ?_; refine vi (r_geq rfl rfl) ?_; refine mv ?_
    cases aB : (decide (0 ≤ ct)) with
    | true =>
     have aW : 0 ≤ ct := of_decide_eq_true aB; refine fa 1 rfl underlying29 rfl sizeOf27 ?_; refine vi (xAF isAgg27 al rfl rfl af) ?_; refine fa 1 rfl underlying25 rfl sizeOf3 ?_; refine vi (xAF isAgg3 aj rfl rfl af) ?_; refine vl (.int .u64 ((a.cats >>> (ct).toNat).toNat : Int)) (r_shrU rfl rfl (by omega) (by omega)) ?_; refine vl (.bool (decide ((a.cats >>> (ct).toNat) = 0#64))) (r_eqlU0 rfl rfl) ?_; refine pkT ?_; refine pkF ?_; refine pkT ?_; refine az ?_; refine nl (ab _ _ ?_); clear ab K2; refine xAQ (?_); refine xAS (v := Value.bool (decide ((a.cats >>> (ct).toNat) = 0#64))) results141 (.inl rfl) rfl ?_; exact ⟨ag, congrArg Value.bool (by unfold fitsL; first | (symm; apply decide_eq_false; rintro ⟨h1, h2, h3, h4⟩; omega) | (symm; apply decide_eq_true; exact ⟨by omega, by omega, by omega, fun c hc ha => by omega⟩) | (refine decide_eq_decide.2 ?_; rw [shr_zero]; exact ⟨fun h => ⟨by omega, by omega, by omega, fun c hc ha => by have := h c hc ha; omega⟩, fun ⟨h1, h2, h3, h4⟩ c hc ha => by have := h4 c hc ha; omega⟩)), ah⟩
    | false =>
     have aX : ¬ (0 ≤ ct) := of_decide_eq_false aB; refine sp ?_; refine sp ?_; refine sp ?_; refine sp ?_; refine sp ?_; refine sp ?_; refine pkF ?_; refine pkF ?_; refine pkT ?_; refine az ?_; refine nl (ab _ _ ?_); clear ab K2; refine xAQ (?_); refine xAS (v := Value.bool false) results141 (.inl rfl) rfl ?_; exact ⟨ag, congrArg Value.bool (by unfold fitsL; first | (symm; apply decide_eq_false; rintro ⟨h1, h2, h3, h4⟩; omega) | (symm; apply decide_eq_true; exact ⟨by omega, by omega, by omega, fun c hc ha => by omega⟩) | (refine decide_eq_decide.2 ?_; rw [shr_zero]; exact ⟨fun h => ⟨by omega, by omega, by omega, fun c hc ha => by have := h c hc ha; omega⟩, fun ⟨h1, h2, h3, h4⟩ c hc ha => by have := h4 c hc ha; omega⟩)), ah⟩
  | false =>
   have aY : ¬ (a.level < lv) := of_decide_eq_false ay; refine sp ?_; refine sp ?_; refine sp ?_; refine sp ?_; refine sp ?_; refine sp ?_; refine sp ?_; refine sp ?_; refine sp ?_; refine sp ?_; refine sp ?_; refine sp ?_; refine sp ?_; refine sp ?_; refine sp ?_; refine sp ?_; refine pkF ?_; refine az ?_; refine nl (ab _ _ ?_); clear ab K2; refine xAQ (?_); refine xAS (v := Value.bool false) results141 (.inl rfl) rfl ?_; exact ⟨ag, congrArg Value.bool (by unfold fitsL; first | (symm; apply decide_eq_false; rintro ⟨h1, h2, h3, h4⟩; omega) | (symm; apply decide_eq_true; exact ⟨by omega, by omega, by omega, fun c hc ha => by omega⟩) | (refine decide_eq_decide.2 ?_; rw [shr_zero]; exact ⟨fun h => ⟨by omega, by omega, by omega, fun c hc ha => by have := h c hc ha; omega⟩, fun ⟨h1, h2, h3, h4⟩ c hc ha => by have := h4 c hc ha; omega⟩)), ah⟩
 | false =>
  have aZ : ¬ (0 ≤ a.level) := of_decide_eq_false ax; refine sp ?_; refine sp ?_; refine sp ?_; refine sp ?_; refine sp ?_; refine pkF ?_; refine mv ?_; refine sp ?_; refine sp ?_; refine sp ?_; refine sp ?_; refine sp ?_; refine sp ?_; refine sp ?_; refine sp ?_; refine sp ?_; refine sp ?_; refine sp ?_; refine sp ?_; refine sp ?_; refine sp ?_; refine sp ?_; refine sp ?_; refine pkF ?_; refine az ?_; refine nl (ab _ _ ?_); clear ab K2; refine xAQ (?_); refine xAS (v := Value.bool false) results141 (.inl rfl) rfl ?_; exact ⟨ag, congrArg Value.bool (by unfold fitsL; first | (symm; apply decide_eq_false; rintro ⟨h1, h2, h3, h4⟩; omega) | (symm; apply decide_eq_true; exact ⟨by omega, by omega, by omega, fun c hc ha => by omega⟩) | (refine decide_eq_decide.2 ?_; rw [shr_zero]; exact ⟨fun h => ⟨by omega, by omega, by omega, fun c hc ha => by have := h c hc ha; omega⟩, fun ⟨h1, h2, h3, h4⟩ c hc ha => by have := h4 c hc ha; omega⟩)), ah⟩
theorem little_c {A : Option Addr} {c : Nat} {l : List Item} {w : World} {C : Gh} (hH : Has w C) (hs : Sl kItem C A c l) : Ret prog 5 #[.slice A l.length c] w fun v w' => ∃ (b : Bool), v = Value.bool b ∧ Ext w.heap.size w C w' C ∧ (b = true → l.length ≤ 60 ∧ ∀ x ∈ l, x.line.text.size ≤ 400) := by
 refine Ret.of func5 rfl ntmps5 rfl ?_; have hE := Ext.refl (B := w.heap.size) hH; have aH := hs.bd; refine rg fun K1 ai => ?_; refine az ?_; refine nl (ai _ _ ?_); clear ai K1; refine sk fun K2 a => ?_; refine rg fun K3 ak => ?_; refine az ?_; refine nl (ak _ _ ?_); clear ak K3; refine xAI ?_; refine xAl (fun msr T w1 => ∃  (k : Nat), Holds T [(0, .slice A l.length c), (3, .int .i64 (k : Int))] ∧ Ext (w.heap.size) w C w1 C ∧ (k ≤ l.length) ∧ (∀ x ∈ l.take k, x.line.text.size ≤ 400) ∧ msr = l.length - k) (l.length - 0) ?_ ?_
 ·exact ⟨0, ⟨rfl, rfl, trivial⟩, Ext.refl hH, Nat.zero_le _, by simp, rfl⟩
 ·rintro msr T w1 ⟨k, hT, ac, hk, hall, rfl⟩; refine xAi hT fun B1 => ?_; have ad := hE.step ac; have ax := ac.has; refine sk fun K4 aa => ?_; refine rg fun K5 ab => ?_; refine mv ?_; refine mv ?_; refine vi (xAR underlying26 rfl) ?_; refine vi (r_lss rfl rfl) ?_; refine mv ?_
  cases an : (decide ((k : Int) < ((l.length : Nat) : Int))) with
  | true =>
   have aJ : (k : Int) < ((l.length : Nat) : Int) := of_decide_eq_true an; refine mv ?_; refine vi (r_leq rfl rfl) ?_; refine pkT ?_; refine nl (ab _ _ ?_); clear ab K5; refine cn (decide ((k : Int) ≤ 60)) (fun af => ?_) (fun af => ?_)
   ·have aK : (k : Int) ≤ 60 := of_decide_eq_true af; refine xAH (aa _ _ ?_); clear aa K4; refine sk fun K6 ao => ?_; refine xAI ?_; refine rg fun K7 ap => ?_; refine mv ?_; refine mv ?_; obtain ⟨x9, aB⟩ := xAe (xs := l) (j := k) (by omega); obtain ⟨aL, aC, aD⟩ := hs.at_ _ _ aB; obtain rfl := aC; refine vl (ptrAt A (((k : Int)).toNat * 6)) (xAJ underlying26 sizeOf37 rfl rfl (hs.isSome (by omega)) (by omega) (by omega)) ?_; refine vl (ptrAt A (((k : Int)).toNat * 6 + 4)) (xAZ underlying37 rfl sizeOf35 rfl rfl rfl (hs.isSome (by omega)) rfl) ?_; refine vl (ptrAt A (((k : Int)).toNat * 6 + 4)) (xAZ underlying35 rfl sizeOf9 rfl rfl rfl (hs.isSome (by omega)) rfl) ?_; refine vi (xAv (i := 4) isAgg9 aD rfl rfl ax) ?_; refine vi (xBG underlying9 rfl) ?_; refine vi (r_gtr rfl rfl) ?_; refine nl (ap _ _ ?_); clear ap K7; refine cn (decide (400 < ((x9.line.text.size : Nat) : Int))) (fun ah => ?_) (fun ah => ?_)
    ·have aM : 400 < ((x9.line.text.size : Nat) : Int) := of_decide_eq_true ah; refine rg fun K8 aq => ?_; refine az ?_; refine nl (aq _ _ ?_); clear aq K8; refine xAQ (xAN (xAE (xAE (xAN (xAE (?_)))))); refine xAS (v := Value.bool false) results5 (.inl rfl) rfl ?_; exact ⟨_, rfl, ad, fun h => by simp at h⟩
    ·have aN : ¬ (400 < ((x9.line.text.size : Nat) : Int)) := of_decide_eq_false ah; refine xAH (ao _ _ ?_); clear ao K6; refine xAA rfl ?_; refine mv ?_; refine vi (xAX rfl rfl (by omega) (by omega)) ?_; refine az ?_; refine nl (xAG (?_)); refine ⟨_, ⟨k + 1, ⟨rfl, rfl, trivial⟩, ac, by omega, mem_take_succ (by assumption) hall (by omega), rfl⟩, ?_⟩; omega
   ·have aO : ¬ ((k : Int) ≤ 60) := of_decide_eq_false af; refine xAc (xAC (xAC (xAM (a _ _ ?_)))); clear a K2 aa K4; refine rg fun K9 ar => ?_; refine mv ?_; refine vi (xAR underlying26 rfl) ?_; refine vi (r_leq rfl rfl) ?_; refine az ?_; refine nl (ar _ _ ?_); clear ar K9; refine xAQ (?_); refine xAS (v := Value.bool (decide (((l.length : Nat) : Int) ≤ 60))) results5 (.inl rfl) rfl ?_
    exact ⟨_, rfl, ad, fun h => by
     have h' := of_decide_eq_true h; rw [List.take_of_length_le (by omega)] at hall
     exact ⟨by omega, hall⟩⟩
  | false =>
   have aP : ¬ ((k : Int) < ((l.length : Nat) : Int)) := of_decide_eq_false an; refine sp ?_; refine sp ?_; refine pkF ?_; refine nl (ab _ _ ?_); clear ab K5; refine xAK false rfl (fun h => nomatch h) (fun _ => ?_); refine xAc (xAC (xAC (xAM (a _ _ ?_)))); clear a K2 aa K4; refine rg fun aG au => ?_; refine mv ?_; refine vi (xAR underlying26 rfl) ?_; refine vi (r_leq rfl rfl) ?_; refine az ?_; refine nl (au _ _ ?_); clear au aG; refine xAQ (?_); refine xAS (v := Value.bool (decide (((l.length : Nat) : Int) ≤ 60))) results5 (.inl rfl) rfl ?_
   exact ⟨_, rfl, ad, fun h => by
    have h' := of_decide_eq_true h; rw [List.take_of_length_le (by omega)] at hall
    exact ⟨by omega, hall⟩⟩
theorem newline_c {s : ByteArray} {w : World} {C : Gh} (hH : Has w C) (hz : s.size ≤ 1000000) : Ret prog 82 #[.string s] w fun v w' => v = Value.bool (decide (nlS s)) ∧ Ext w.heap.size w C w' C := by
 refine Ret.of func82 rfl ntmps82 rfl ?_; have hE := Ext.refl (B := w.heap.size) hH; refine rg fun K1 ad => ?_; refine az ?_; refine nl (ad _ _ ?_); clear ad K1; refine sk fun K2 ae => ?_; refine rg fun K3 af => ?_; refine az ?_; refine nl (af _ _ ?_); clear af K3; refine xAI ?_; refine xAl (fun msr T w1 => ∃  (k : Nat), Holds T [(0, .string s), (3, .int .i64 (k : Int))] ∧ Ext (w.heap.size) w C w1 C ∧ (k ≤ s.size) ∧ (∀ i : Nat, i < k → ∀ b, s[i]? = some b → b ≠ 10) ∧ msr = s.size - k) (s.size - 0) ?_ ?_
 ·exact ⟨0, ⟨rfl, rfl, trivial⟩, Ext.refl hH, Nat.zero_le _, fun i h => by omega, rfl⟩
 ·rintro msr T w1 ⟨k, hT, ah, hk, hall, rfl⟩; refine xAi hT fun B1 => ?_; have ai := hE.step ah; refine sk fun K4 aa => ?_; refine rg fun K5 ak => ?_; refine mv ?_; refine mv ?_; refine vi (xBG underlying9 rfl) ?_; refine vi (r_lss rfl rfl) ?_; refine nl (ak _ _ ?_); clear ak K5; refine cn (decide ((k : Int) < ((s.size : Nat) : Int))) (fun ab => ?_) (fun ab => ?_)
  ·have aC : (k : Int) < ((s.size : Nat) : Int) := of_decide_eq_true ab; refine xAH (aa _ _ ?_); clear aa K4; refine sk fun K6 al => ?_; refine xAI ?_; refine rg fun K7 am => ?_; refine mv ?_; refine mv ?_; obtain ⟨a, ax⟩ : ∃ b, s[((k : Int)).toNat]? = some b := ⟨_, bt_lt _ _ (by omega)⟩; refine vl (.int .u8 (a.toNat : Int)) (r_indexStr underlying9 rfl rfl (by omega) ax) ?_; refine vi (r_eql rfl rfl) ?_; refine nl (am _ _ ?_); clear am K7; refine cn (decide ((a.toNat : Int) = 10)) (fun ac => ?_) (fun ac => ?_)
   ·have aD : (a.toNat : Int) = 10 := of_decide_eq_true ac; refine rg fun K8 an => ?_; refine az ?_; refine nl (an _ _ ?_); clear an K8; refine xAQ (xAN (xAE (xAE (xAN (xAE (?_)))))); refine xAS (v := Value.bool true) results82 (.inl rfl) rfl ?_; exact ⟨congrArg Value.bool (decide_eq_true (nl_hit (by assumption) (by assumption))).symm, ai⟩
   ·have aE : ¬ ((a.toNat : Int) = 10) := of_decide_eq_false ac; refine xAH (al _ _ ?_); clear al K6; refine xAA rfl ?_; refine mv ?_; refine vi (xAX rfl rfl (by omega) (by omega)) ?_; refine az ?_; refine nl (xAG (?_)); refine ⟨_, ⟨k + 1, ⟨rfl, rfl, trivial⟩, ah, by omega, nl_step hall (by assumption) (by assumption), rfl⟩, ?_⟩; omega
  ·have aF : ¬ ((k : Int) < ((s.size : Nat) : Int)) := of_decide_eq_false ab; refine xAc (xAC (xAC (xAM (ae _ _ ?_)))); clear ae K2 aa K4; refine rg fun K9 ao => ?_; refine az ?_; refine nl (ao _ _ ?_); clear ao K9; refine xAQ (?_); refine xAS (v := Value.bool false) results82 (.inl rfl) rfl ?_; exact ⟨congrArg Value.bool (decide_eq_false (nlS_no fun i hi => hall i (by omega))).symm, ai⟩

end Go.Proofs.YtlofomkhiefbmaaGreatDoor

set_option maxRecDepth 10000
namespace Go.Proofs.YtlofomkhiefbmaaGreatDoor
open Go.Proofs.Tryz
open Go.RowKit
def tz_ren : Go.Shelf.Ren := ⟨fun | 29 => 142 | n => n, fun | 22 => 27 | 25 => 241 | 54 => 252 | n => n, fun n => n⟩
theorem tz_lays : Go.Proofs.Lays7.n29 prog tz_ren := {
  mixed := by kernel_rfl
  f29 := func142.trans (congrArg some (by kernel_rfl))
  t0 := underlying0
  a0 := isAgg0
  z0 := sizeOf0
  v0 := zeroValue0
  i0 := by kernel_rfl
  t3 := underlying3
  a3 := isAgg3
  z3 := sizeOf3
  v3 := zeroValue3
  i3 := by kernel_rfl
  t4 := underlying4
  a4 := isAgg4
  z4 := sizeOf4
  v4 := zeroValue4
  i4 := by kernel_rfl
  t5 := underlying5
  a5 := isAgg5
  z5 := sizeOf5
  v5 := zeroValue5
  i5 := by kernel_rfl
  t22 := underlying27
  a22 := isAgg27
  z22 := sizeOf27
  v22 := zeroValue27
  i22 := by kernel_rfl
  t25 := underlying241
  a25 := isAgg241
  z25 := sizeOf241
  v25 := zeroValue241
  i25 := by kernel_rfl
  t54 := underlying252
  a54 := isAgg252
  z54 := sizeOf252
  g1 := by kernel_rfl }
/-- The library's table lies where it lies. -/
def TabC (C : Gh) : Prop := ∀ j, j < 64 → C 1 j = some (.int .u8 ((Lib.deBruijn64tab.getD j 0 : Nat) : Int))
theorem TabC.mono {C C' : Gh} (h : TabC C) (hle : Gle C C') : TabC C' := fun j hj => hle _ _ _ (h j hj)
theorem TZ_c {x : BitVec 64} {w : World} {C : Gh} (hH : Has w C) (ht : TabC C) : Ret prog 142 #[.int .u64 (x.toNat : Int)] w fun v w' => v = .int .i64 (Lib.ctz 64 x.toNat : Int) ∧ Ext w.heap.size w C w' C := by
 refine Calls.mono (Go.Proofs.Any7.bits_TrailingZeros64 tz_lays x.toNat x.isLt w (fun _ j hj => hH _ _ _ (ht j hj))) ?_; rintro e w' ⟨rfl, rfl⟩; exact ⟨_, rfl, rfl, Ext.refl hH⟩
theorem Decimal_c {n : Int} {w : World} {C : Gh} (hH : Has w C) (h0 : 0 ≤ n) (h1 : n < 100) : Ret prog 93 #[.int .i64 n] w fun v w' => ∃ (C' : Gh), v = Value.string (decS n) ∧ Ext w.heap.size w C w' C' := by
 refine Ret.of func93 rfl ntmps93 rfl ?_; have hE := Ext.refl (B := w.heap.size) hH; refine rg fun K1 af => ?_; refine az ?_; refine nl (af _ _ ?_); clear af K1; refine sk fun K2 ag => ?_; refine rg fun K3 aa => ?_; refine mv ?_; refine vi (r_lss rfl rfl) ?_; refine mv ?_
 cases ai : (decide (n < 0)) with
 | true =>
  have a1 : n < 0 := of_decide_eq_true ai; refine sp ?_; refine sp ?_; refine pkT ?_; refine nl (aa _ _ ?_); clear aa K3; refine xAK true rfl (fun _ => ?_) (fun h => nomatch h); refine rg fun K4 aj => ?_; refine az ?_; refine nl (aj _ _ ?_); clear aj K4; refine xAQ (xAE (?_)); refine xAS (v := Value.string ({ data := #[63] })) results93 (.inl rfl) rfl ?_; exfalso; omega
 | false =>
  have a2 : ¬ (n < 0) := of_decide_eq_false ai; refine mv ?_; refine vi (r_gtr rfl rfl) ?_; refine pkF ?_; refine nl (aa _ _ ?_); clear aa K3; refine cn (decide (2147483647 < n)) (fun ac => ?_) (fun ac => ?_)
  ·have a3 : 2147483647 < n := of_decide_eq_true ac; refine rg fun K5 ak => ?_; refine az ?_; refine nl (ak _ _ ?_); clear ak K5; refine xAQ (xAE (?_)); refine xAS (v := Value.string ({ data := #[63] })) results93 (.inl rfl) rfl ?_; exfalso; omega
  ·have a4 : ¬ (2147483647 < n) := of_decide_eq_false ac; refine xAH (ag _ _ ?_); clear ag K2; refine rg fun K6 al => ?_; refine xAb (cs := [.int .u8 0, .int .u8 0, .int .u8 0, .int .u8 0, .int .u8 0, .int .u8 0, .int .u8 0, .int .u8 0, .int .u8 0, .int .u8 0]) rfl rfl rfl zeroValue208 rfl hH ?_; intro g7 w8 am an aL; have a6 := Nat.le_trans hE.size (Nat.le_of_eq aL); have ao := hE.step an; have aM := an.has; have a7 := am.lt; refine nl (al _ _ ?_); clear al K6; refine rg fun K7 ap => ?_; refine az ?_; refine nl (ap _ _ ?_); clear ap K7; refine xAI ?_; refine xBA (FWL.unroll ?_); refine xAI ?_; refine rg fun K8 aq => ?_; refine mv ?_; refine vl (.int .i64 9) (r_subE (a := 10) (b := 1) rfl rfl (by decide)) ?_; refine az ?_; refine nl (aq _ _ ?_); clear aq K8; refine rg fun K9 ar => ?_; refine mv ?_; refine mv ?_; refine vl (.int .i64 (n % 10)) (r_remP rfl rfl (by omega) (by decide) (by omega)) ?_; refine vi (xAX rfl rfl (by omega) (by omega)) ?_; refine vl (.int .u8 ((dig (n % 10)).toNat : Int)) (r_convDig runUnderlying3 runUnderlying5 rfl (by omega) (by omega)) ?_; refine vl (.pointer (some ⟨g7, 9, none⟩)) (r_indexArrS underlying208 sizeOf5 rfl rfl (by omega) (by omega) rfl) ?_; refine xAP (vs := [.int .u8 ((dig (n % 10)).toNat : Int)]) (cs' := [.int .u8 0, .int .u8 0, .int .u8 0, .int .u8 0, .int .u8 0, .int .u8 0, .int .u8 0, .int .u8 0, .int .u8 0, .int .u8 ((dig (n % 10)).toNat : Int)]) rfl rfl rfl sizeOf5 rfl am aM rfl rfl rfl rfl rfl rfl ?_; intro a8 au av; have ad := ao.trans (au.ext ao.size (by omega)); have aQ := au.has; refine nl (ar _ _ ?_); clear ar K9; refine rg fun aR aw => ?_; refine mv ?_; refine vl (.int .i64 (n / 10)) (r_quoP rfl rfl (by omega) (by decide) (by omega)) ?_
   refine az ?_; refine nl (aw _ _ ?_); clear aw aR; refine rg fun aS ax => ?_; refine mv ?_; refine vi (r_eql rfl rfl) ?_; refine nl (ax _ _ ?_); clear ax aS; refine cn (decide ((n / 10) = 0)) (fun ae => ?_) (fun ae => ?_)
   ·have a9 : (n / 10) = 0 := of_decide_eq_true ae; refine rg fun aT ay => ?_; refine mv ?_; refine vl (.slice (some ⟨g7, 9, none⟩) 1 1) (r_sliceArrL (l := 9) underlying208 sizeOf5 rfl rfl (by decide) (by decide)) ?_
    refine xAm 25 rfl rfl (.string (⟨#[dig (n % 10)]⟩ : ByteArray)) _ (r_bytesStrSt (o := 9) (l := [dig (n % 10)]) (r := (⟨#[dig (n % 10)]⟩ : ByteArray)) underlying38 underlying5 underlying9 (fun j hj => by
      match j, hj with
      | 0, _ => exact av.cell rfl) rfl rfl) ?_
    refine az ?_; refine nl (ay _ _ ?_); clear ay aT; refine xAQ (xAN (xAE (xAN (?_)))); refine xAS (v := Value.string (⟨#[dig (n % 10)]⟩ : ByteArray)) results93 (.inl rfl) rfl ?_; exact ⟨C, congrArg Value.string (by unfold decS; first | rw [if_pos (by omega)] | rw [if_neg (by omega)]), ad⟩
   ·have ba : ¬ ((n / 10) = 0) := of_decide_eq_false ae; refine xAH (xAL (xAq ?_)); refine xAI ?_; refine rg fun aU aA => ?_; refine mv ?_; refine vl (.int .i64 8) (r_subE (a := 9) (b := 1) rfl rfl (by decide)) ?_; refine az ?_; refine nl (aA _ _ ?_); clear aA aU; refine rg fun aV aB => ?_; refine mv ?_; refine mv ?_; refine vl (.int .i64 ((n / 10) % 10)) (r_remP rfl rfl (by omega) (by decide) (by omega)) ?_; refine vi (xAX rfl rfl (by omega) (by omega)) ?_; refine vl (.int .u8 ((dig ((n / 10) % 10)).toNat : Int)) (r_convDig runUnderlying3 runUnderlying5 rfl (by omega) (by omega)) ?_; refine vl (.pointer (some ⟨g7, 8, none⟩)) (r_indexArrS underlying208 sizeOf5 rfl rfl (by omega) (by omega) rfl) ?_; refine xAP (vs := [.int .u8 ((dig ((n / 10) % 10)).toNat : Int)]) (cs' := [.int .u8 0, .int .u8 0, .int .u8 0, .int .u8 0, .int .u8 0, .int .u8 0, .int .u8 0, .int .u8 0, .int .u8 ((dig ((n / 10) % 10)).toNat : Int), .int .u8 ((dig (n % 10)).toNat : Int)]) rfl rfl rfl sizeOf5 rfl av aQ rfl rfl rfl rfl rfl rfl ?_; intro bb aW aC; have aX := ad.trans (aW.ext ad.size (by omega)); refine nl (aB _ _ ?_); clear aB aV; refine rg fun aY aD => ?_; refine mv ?_; refine vl (.int .i64 ((n / 10) / 10)) (r_quoP rfl rfl (by omega) (by decide) (by omega)) ?_; refine az ?_; refine nl (aD _ _ ?_); clear aD aY; refine rg fun aZ aE => ?_; refine mv ?_; refine vi (r_eql rfl rfl) ?_; refine nl (aE _ _ ?_); clear aE aZ; refine xAK true (congrArg Value.bool (decide_eq_true (by omega))) (fun _ => ?_) (fun h => nomatch h); refine rg fun a0 aF => ?_; refine mv ?_; refine vl (.slice (some ⟨g7, 8, none⟩) 2 2) (r_sliceArrL (l := 8) underlying208 sizeOf5 rfl rfl (by decide) (by decide)) ?_
    refine xAm 25 rfl rfl (.string (⟨#[dig ((n / 10) % 10), dig (n % 10)]⟩ : ByteArray)) _ (r_bytesStrSt (o := 8) (l := [dig ((n / 10) % 10), dig (n % 10)]) (r := (⟨#[dig ((n / 10) % 10), dig (n % 10)]⟩ : ByteArray)) underlying38 underlying5 underlying9 (fun j hj => by
      match j, hj with
      | 0, _ => exact aC.cell rfl
      | 1, _ => exact aC.cell rfl) rfl rfl) ?_
    refine az ?_; refine nl (aF _ _ ?_); clear aF a0; refine xAQ (xAN (xAE (xAN (?_)))); refine xAS (v := Value.string (⟨#[dig ((n / 10) % 10), dig (n % 10)]⟩ : ByteArray)) results93 (.inl rfl) rfl ?_; exact ⟨C, congrArg Value.string (by unfold decS; first | rw [if_pos (by omega)] | rw [if_neg (by omega)]), aX⟩
theorem RDec1_c {n : Int} {w : World} {C : Gh} (hH : Has w C) (h0 : 0 ≤ n) (h1 : n < 10) : Ret prog 83 #[.int .i64 n] w fun v w' => ∃ (C' : Gh) (s : ByteArray), v = Value.string s ∧ Ext w.heap.size w C w' C' ∧ s.size ≤ 1 := by
 refine Ret.of func83 rfl ntmps83 rfl ?_; have hE := Ext.refl (B := w.heap.size) hH; refine rg fun K1 ab => ?_; refine az ?_; refine nl (ab _ _ ?_); clear ab K1; refine sk fun K2 ac => ?_; refine rg fun K3 a => ?_; refine mv ?_; refine vi (r_lss rfl rfl) ?_; refine mv ?_
 cases ae : (decide (n < 0)) with
 | true =>
  have ax : n < 0 := of_decide_eq_true ae; refine sp ?_; refine sp ?_; refine pkT ?_; refine nl (a _ _ ?_); clear a K3; refine xAK true rfl (fun _ => ?_) (fun h => nomatch h); refine rg fun K4 af => ?_; refine az ?_; refine nl (af _ _ ?_); clear af K4; refine xAQ (xAE (?_)); refine xAS (v := Value.string ({ data := #[63] })) results83 (.inl rfl) rfl ?_; exfalso; omega
 | false =>
  have ay : ¬ (n < 0) := of_decide_eq_false ae; refine mv ?_; refine vi (r_gtr rfl rfl) ?_; refine pkF ?_; refine nl (a _ _ ?_); clear a K3; refine cn (decide (2147483647 < n)) (fun aa => ?_) (fun aa => ?_)
  ·have aA : 2147483647 < n := of_decide_eq_true aa; refine rg fun K5 ag => ?_; refine az ?_; refine nl (ag _ _ ?_); clear ag K5; refine xAQ (xAE (?_)); refine xAS (v := Value.string ({ data := #[63] })) results83 (.inl rfl) rfl ?_; exfalso; omega
  ·have aB : ¬ (2147483647 < n) := of_decide_eq_false aa; refine xAH (ac _ _ ?_); clear ac K2; refine sk fun K6 aD => ?_; refine rg fun K7 ah => ?_; refine mv ?_; refine vi (r_lss rfl rfl) ?_; refine nl (ah _ _ ?_); clear ah K7; refine xAK true (congrArg Value.bool (decide_eq_true (by omega))) (fun _ => ?_) (fun h => nomatch h); refine rg fun K8 ai => ?_; refine mv ?_; refine vi (xAX rfl rfl (by omega) (by omega)) ?_; refine vl (.int .u8 ((dig n).toNat : Int)) (r_convDig runUnderlying3 runUnderlying5 rfl (by omega) (by omega)) ?_; refine FWl.litG (K := kInt .u8) (xs := [((dig n).toNat : Int)]) (cs := [.int .u8 ((dig n).toNat : Int)]) rfl rfl rfl underlying38 info5 zero5 rfl (by kernel_rfl) (.cons (cs := [.int .u8 ((dig n).toNat : Int)]) rfl .nil) rfl hH ?_; intro aE aF aq ar aj au aG; have aH := Nat.le_trans hE.size (Nat.le_of_eq au); have av := hE.step aj; have aw := aj.has; have aI : (⟨#[dig n]⟩ : ByteArray).size = 1 := rfl; refine vl (.string (⟨#[dig n]⟩ : ByteArray)) (r_bytesStr (l := [dig n]) (r := (⟨#[dig n]⟩ : ByteArray)) underlying38 underlying5 underlying9 ar rfl rfl (Nat.succ_pos _) aw rfl) ?_; refine az ?_; refine nl (ai _ _ ?_); clear ai K8; refine xAQ (xAE (?_)); refine xAS (v := Value.string (⟨#[dig n]⟩ : ByteArray)) results83 (.inl rfl) rfl ?_; exact ⟨aq, _, rfl, av, Nat.le_refl 1⟩
theorem RDecimal_c {n : Int} {w : World} {C : Gh} (hH : Has w C) (h0 : 0 ≤ n) (h1 : n < 100) : Ret prog 83 #[.int .i64 n] w fun v w' => ∃ (C' : Gh) (s : ByteArray), v = Value.string s ∧ Ext w.heap.size w C w' C' ∧ s.size ≤ 2 := by
 refine Ret.of func83 rfl ntmps83 rfl ?_; have hE := Ext.refl (B := w.heap.size) hH; refine rg fun K1 aq => ?_; refine az ?_; refine nl (aq _ _ ?_); clear aq K1; refine sk fun K2 ar => ?_; refine rg fun K3 aa => ?_; refine mv ?_; refine vi (r_lss rfl rfl) ?_; refine mv ?_
 cases av : (decide (n < 0)) with
 | true =>
  have b : n < 0 := of_decide_eq_true av; refine sp ?_; refine sp ?_; refine pkT ?_; refine nl (aa _ _ ?_); clear aa K3; refine xAK true rfl (fun _ => ?_) (fun h => nomatch h); refine rg fun K4 aw => ?_; refine az ?_; refine nl (aw _ _ ?_); clear aw K4; refine xAQ (xAE (?_)); refine xAS (v := Value.string ({ data := #[63] })) results83 (.inl rfl) rfl ?_; exfalso; omega
 | false =>
  have ba : ¬ (n < 0) := of_decide_eq_false av; refine mv ?_; refine vi (r_gtr rfl rfl) ?_; refine pkF ?_; refine nl (aa _ _ ?_); clear aa K3; refine cn (decide (2147483647 < n)) (fun ac => ?_) (fun ac => ?_)
  ·have bb : 2147483647 < n := of_decide_eq_true ac; refine rg fun K5 ax => ?_; refine az ?_; refine nl (ax _ _ ?_); clear ax K5; refine xAQ (xAE (?_)); refine xAS (v := Value.string ({ data := #[63] })) results83 (.inl rfl) rfl ?_; exfalso; omega
  ·have bc : ¬ (2147483647 < n) := of_decide_eq_false ac; refine xAH (ar _ _ ?_); clear ar K2; refine sk fun K6 ay => ?_; refine rg fun K7 aA => ?_; refine mv ?_; refine vi (r_lss rfl rfl) ?_; refine nl (aA _ _ ?_); clear aA K7; refine cn (decide (n < 10)) (fun ad => ?_) (fun ad => ?_)
   ·have be : n < 10 := of_decide_eq_true ad; refine rg fun K8 aB => ?_; refine mv ?_; refine vi (xAX rfl rfl (by omega) (by omega)) ?_; refine vl (.int .u8 ((dig n).toNat : Int)) (r_convDig runUnderlying3 runUnderlying5 rfl (by omega) (by omega)) ?_; refine FWl.litG (K := kInt .u8) (xs := [((dig n).toNat : Int)]) (cs := [.int .u8 ((dig n).toNat : Int)]) rfl rfl rfl underlying38 info5 zero5 rfl (by kernel_rfl) (.cons (cs := [.int .u8 ((dig n).toNat : Int)]) rfl .nil) rfl hH ?_; intro bf bg aT aU aC aV bh; have bi := Nat.le_trans hE.size (Nat.le_of_eq aV); have aW := hE.step aC; have aX := aC.has; have bj : (⟨#[dig n]⟩ : ByteArray).size = 1 := rfl; refine vl (.string (⟨#[dig n]⟩ : ByteArray)) (r_bytesStr (l := [dig n]) (r := (⟨#[dig n]⟩ : ByteArray)) underlying38 underlying5 underlying9 aU rfl rfl (Nat.succ_pos _) aX rfl) ?_; refine az ?_; refine nl (aB _ _ ?_); clear aB K8; refine xAQ (xAE (?_)); refine xAS (v := Value.string (⟨#[dig n]⟩ : ByteArray)) results83 (.inl rfl) rfl ?_; exact ⟨aT, _, rfl, aW, (by first | (rw [ByteArray.size_append]; exact Nat.add_le_add (by assumption) (Nat.le_refl 1)) | exact Nat.le_succ 1)⟩
   ·have bk : ¬ (n < 10) := of_decide_eq_false ad; refine xAH (ay _ _ ?_); clear ay K6; refine sk fun K9 a => ?_; refine xAT mixed (SS C (fun _ => True) w.drew) [7, 10] (.pure 0 (.pure 1 (.pure 3 (.pure 4 (.pure 5 (.take 6 (.two 2 (.one 7 (.one 8 (.one 9 (.one 10 .done)))) 7 (.two 2 (.one 8 (.one 9 (.one 10 .done))) 8 (.one 2 (.one 9 (.one 10 .done))))))))))) rfl (by kernel_rfl) ?_; have aD : Ext w.heap.size w C w.drew C := (Ext.refl hH).drew; generalize w.drew = aE at *; have aF := hE.step aD; have af := aD.has; have ag : SS C (fun _ => True) aE aE := SS.refl af; have bl := Gle.refl C; refine pm ?_; refine pu rfl (.int .i64 (n / 10)) (fun _ => r_quoP rfl rfl (by omega) (by decide) (by omega)) ?_; refine pm ?_; refine pu rfl (.int .i64 (n % 10)) (fun _ => r_remP rfl rfl (by omega) (by decide) (by omega)) ?_; refine pu rfl (.int .i64 (48 + (n % 10))) (fun _ => xAX rfl rfl (by omega) (by omega)) ?_; refine tk rfl (.int .u8 ((dig (n % 10)).toNat : Int)) ag (fun _ _ => r_convDig runUnderlying3 runUnderlying5 rfl (by omega) (by omega)) ?_; refine FWs.two ?_ ?_
    ·refine xAk rfl 18 rfl rfl 83 #[.int .i64 (n / 10)] (xAd call83 rfl rfl) ((RDec1_c af (by omega) (by omega)).mono ?_); rintro _ bm ⟨bn, ah, rfl, ai, bo⟩; have aY := aF.step ai; have aZ := ai.has; have aG := ag.step ai; refine ⟨(.inr aG), ?_⟩; refine FWs.lit (K := kInt .u8) (xs := [((dig (n % 10)).toNat : Int)]) (cs := [.int .u8 ((dig (n % 10)).toNat : Int)]) rfl rfl rfl rfl underlying38 info5 zero5 rfl (by kernel_rfl) (.cons (cs := [.int .u8 ((dig (n % 10)).toNat : Int)]) rfl .nil) rfl aZ ?_; intro bp bq a0 a1 aj br; have a2 := aY.step aj; have a3 := aj.has; have aH := aG.step aj; refine ⟨(.inl rfl), ?_⟩; have bs : (⟨#[dig (n % 10)]⟩ : ByteArray).size = 1 := rfl; refine ws rfl (.string (⟨#[dig (n % 10)]⟩ : ByteArray)) (r_bytesStr (l := [dig (n % 10)]) (r := (⟨#[dig (n % 10)]⟩ : ByteArray)) underlying38 underlying5 underlying9 a1 rfl rfl (Nat.succ_pos _) a3 rfl) (.inr aH) ?_; refine ws rfl (.string (ah ++ (⟨#[dig (n % 10)]⟩ : ByteArray))) (r_concat rfl rfl (by first | omega | (simp only [ByteArray.size_append]; omega))) (.inr aH) ?_; refine ws rfl (.string (ah ++ (⟨#[dig (n % 10)]⟩ : ByteArray))) (xAo) (.inl rfl) ?_; refine xAf (a _ _ ?_); clear a K9; refine xAQ (?_); refine xAS (v := Value.string (ah ++ (⟨#[dig (n % 10)]⟩ : ByteArray))) results83 (.inl rfl) rfl ?_; exact ⟨a0, _, rfl, a2, (by first | (rw [ByteArray.size_append]; exact Nat.add_le_add (by assumption) (Nat.le_refl 1)) | exact Nat.le_succ 1)⟩
    ·refine FWs.lit (K := kInt .u8) (xs := [((dig (n % 10)).toNat : Int)]) (cs := [.int .u8 ((dig (n % 10)).toNat : Int)]) rfl rfl rfl rfl underlying38 info5 zero5 rfl (by kernel_rfl) (.cons (cs := [.int .u8 ((dig (n % 10)).toNat : Int)]) rfl .nil) rfl af ?_; intro bu bv bw aI ak bx; have aJ := aF.step ak; have al := ak.has; have am := ag.step ak; refine ⟨(.inl rfl), ?_⟩; refine FWs.two ?_ ?_
     ·refine xAk rfl 18 rfl rfl 83 #[.int .i64 (n / 10)] (xAd call83 rfl rfl) ((RDec1_c al (by omega) (by omega)).mono ?_); rintro _ bz ⟨a4, an, rfl, ab, bA⟩; have a5 := aJ.step ab; have a6 := aI.mono ab.le; have a7 := ab.has; have ao := am.step ab; refine ⟨(.inr ao), ?_⟩; have bB : (⟨#[dig (n % 10)]⟩ : ByteArray).size = 1 := rfl; refine ws rfl (.string (⟨#[dig (n % 10)]⟩ : ByteArray)) (r_bytesStr (l := [dig (n % 10)]) (r := (⟨#[dig (n % 10)]⟩ : ByteArray)) underlying38 underlying5 underlying9 a6 rfl rfl (Nat.succ_pos _) a7 rfl) (.inr ao) ?_; refine ws rfl (.string (an ++ (⟨#[dig (n % 10)]⟩ : ByteArray))) (r_concat rfl rfl (by first | omega | (simp only [ByteArray.size_append]; omega))) (.inr ao) ?_; refine ws rfl (.string (an ++ (⟨#[dig (n % 10)]⟩ : ByteArray))) (xAo) (.inl rfl) ?_; refine xAf (a _ _ ?_); clear a K9; refine xAQ (?_); refine xAS (v := Value.string (an ++ (⟨#[dig (n % 10)]⟩ : ByteArray))) results83 (.inl rfl) rfl ?_; exact ⟨a4, _, rfl, a5, (by first | (rw [ByteArray.size_append]; exact Nat.add_le_add (by assumption) (Nat.le_refl 1)) | exact Nat.le_succ 1)⟩
     ·have bC : (⟨#[dig (n % 10)]⟩ : ByteArray).size = 1 := rfl; refine ws rfl (.string (⟨#[dig (n % 10)]⟩ : ByteArray)) (r_bytesStr (l := [dig (n % 10)]) (r := (⟨#[dig (n % 10)]⟩ : ByteArray)) underlying38 underlying5 underlying9 aI rfl rfl (Nat.succ_pos _) al rfl) (.inr am) ?_; refine xAk rfl 18 rfl rfl 83 #[.int .i64 (n / 10)] (xAd call83 rfl rfl) ((RDec1_c al (by omega) (by omega)).mono ?_); rintro _ bD ⟨a8, ap, rfl, aK, bE⟩; have a9 := aJ.step aK; have aL := am.step aK; refine ⟨(.inr aL), ?_⟩; refine ws rfl (.string (ap ++ (⟨#[dig (n % 10)]⟩ : ByteArray))) (r_concat rfl rfl (by first | omega | (simp only [ByteArray.size_append]; omega))) (.inr aL) ?_; refine ws rfl (.string (ap ++ (⟨#[dig (n % 10)]⟩ : ByteArray))) (xAo) (.inl rfl) ?_; refine xAf (a _ _ ?_); clear a K9; refine xAQ (?_); refine xAS (v := Value.string (ap ++ (⟨#[dig (n % 10)]⟩ : ByteArray))) results83 (.inl rfl) rfl ?_; exact ⟨a8, _, rfl, a9, (by first | (rw [ByteArray.size_append]; exact Nat.add_le_add (by assumption) (Nat.le_refl 1)) | exact Nat.le_succ 1)⟩
theorem RLPrint_c {a : Label} {w : World} {C : Gh} (hH : Has w C) (hr : rightL a) : Ret prog 44 #[.agg #[.int .i64 a.level, .int .u64 (a.cats.toNat : Int)]] w fun v w' => ∃ (C' : Gh) (s : ByteArray), v = Value.string s ∧ Ext w.heap.size w C w' C' ∧ s.size ≤ 194 := by
 refine Ret.of func44 rfl ntmps44 rfl ?_; have hE := Ext.refl (B := w.heap.size) hH; have bk := hr.1; have bl := hr.2; refine rg fun K1 al => ?_; refine xAh (cs := [.int .i64 a.level, .int .u64 (a.cats.toNat : Int)]) rfl rfl rfl rfl rfl hH ?_; intro g1 w2 an e4 aS; have bn := Nat.le_trans hE.size (Nat.le_of_eq aS); have ap := hE.step e4; have aT := e4.has; have bo := an.lt; obtain ⟨C8, m9, ar⟩ := an.commit aT; have aU := ap.trans (m9.ext ap.size (by omega)); have au := m9.has; refine az ?_; refine nl (al _ _ ?_); clear al K1; refine rg fun K2 av => ?_; refine fa 0 rfl underlying29 rfl sizeOf3 ?_; refine vi (xAF isAgg3 ar rfl rfl au) ?_; refine xAD 8 rfl rfl 83 #[.int .i64 a.level] (xAd call83 rfl rfl) ((RDecimal_c au (by omega) (by omega)).mono ?_); rintro _ bq ⟨br, aw, rfl, ag, bs⟩; have aW := aU.step ag; have aX := ar.mono ag.le; have ax := ag.has; refine az ?_; refine nl (av _ _ ?_); clear av K2; refine rg fun K3 ay => ?_; refine vl (.agg #[.int .i64 a.level, .int .u64 (a.cats.toNat : Int)]) (xAY isAgg29 sizeOf29 aX rfl ax) ?_; refine xAD 10 rfl rfl 37 #[.agg #[.int .i64 a.level, .int .u64 (a.cats.toNat : Int)]] (xAd call37 rfl rfl) ((RCats_c ax).mono ?_); rintro _ aA ⟨aB, ab, aC, rfl, aD, aZ⟩; have a0 := aW.step aD; have a1 := aD.has; refine az ?_; refine nl (ay _ _ ?_); clear ay K3; refine sk fun K4 aE => ?_; refine rg fun K5 aF => ?_; refine az ?_; refine nl (aF _ _ ?_); clear aF K5; refine xAI ?_; refine xAl (fun msr T aG => ∃ (ah : Gh) (k : Nat) (out : ByteArray), Holds T [(0, .agg #[.int .i64 a.level, .int .u64 (a.cats.toNat : Int)]), (1, .pointer (some ⟨g1, 0, none⟩)), (2, .string ({ data := #[] })), (3, .string out), (4, .slice ab ((catsI a.cats 64).length) aC), (5, .int .i64 (k : Int)), (6, .pointer (some ⟨g1, 0, none⟩)), (7, .int .i64 a.level), (8, .string aw), (9, .agg #[.int .i64 a.level, .int .u64 (a.cats.toNat : Int)]), (10, .slice ab ((catsI a.cats 64).length) aC)] ∧ Ext (aA.heap.size) aA aB aG ah ∧ (k ≤ (catsI a.cats 64).length) ∧ (out.size ≤ 2 + 3 * k) ∧ msr = (catsI a.cats 64).length - k) ((catsI a.cats 64).length - 0) ?_ ?_
 ·exact ⟨aB, 0, aw, ⟨rfl, rfl, rfl, rfl, rfl, rfl, rfl, rfl, rfl, rfl, rfl, trivial⟩, Ext.refl a1, Nat.zero_le _, by omega, rfl⟩
 ·rintro msr T aG ⟨ah, k, out, hT, aa, hk, ho, rfl⟩; refine xAi hT fun B1 => ?_; have a4 := a0.step aa; have ac := aZ.mono aa.le; have ad := aa.has; have hcl := catsI_len a.cats 64; refine sk fun K6 ai => ?_; refine rg fun K7 aI => ?_; refine mv ?_; refine mv ?_; refine vi (xAR underlying46 rfl) ?_; refine vi (r_lss rfl rfl) ?_; refine nl (aI _ _ ?_); clear aI K7; refine cn (decide ((k : Int) < (((catsI a.cats 64).length : Nat) : Int))) (fun aj => ?_) (fun aj => ?_)
  ·have bv : (k : Int) < (((catsI a.cats 64).length : Nat) : Int) := of_decide_eq_true aj; refine xAH (ai _ _ ?_); clear ai K6; refine sk fun K8 ae => ?_; refine xAI ?_; refine sk fun K9 af => ?_; refine rg fun a6 aL => ?_; refine mv ?_; refine vi (r_eql rfl rfl) ?_; refine nl (aL _ _ ?_); clear aL a6; refine cn (decide ((k : Int) = 0)) (fun ak => ?_) (fun ak => ?_)
   ·have bw : (k : Int) = 0 := of_decide_eq_true ak; refine xAA rfl ?_; refine mv ?_; have bx : (⟨#[58]⟩ : ByteArray).size = 1 := rfl; refine vl (.string (out ++ (⟨#[58]⟩ : ByteArray))) (r_concat rfl rfl (by first | omega | (simp only [ByteArray.size_append]; omega))) ?_; refine az ?_; refine nl (af _ _ ?_); clear af K9; refine xAA rfl ?_; refine mv ?_; refine mv ?_; refine mv ?_; obtain ⟨a7, aM⟩ := xAe (xs := (catsI a.cats 64)) (j := k) (by omega); obtain ⟨bz, a8, a9⟩ := ac.at_ _ _ aM; obtain rfl := a8; have hcm := catsI_mem (List.mem_of_getElem? aM); refine vl (ptrAt ab (((k : Int)).toNat * 1)) (xAJ underlying46 sizeOf3 rfl rfl (ac.isSome (by omega)) (by omega) (by omega)) ?_; refine vi (xAv (i := 0) isAgg3 a9 rfl rfl ad) ?_; refine xAD 28 rfl rfl 83 #[.int .i64 a7] (xAd call83 rfl rfl) ((RDecimal_c ad (by omega) (by omega)).mono ?_); rintro _ bA ⟨b, aN, rfl, ba, bB⟩; have bb := aa.step ba; refine vl (.string ((out ++ (⟨#[58]⟩ : ByteArray)) ++ aN)) (r_concat rfl rfl (by first | omega | (simp only [ByteArray.size_append]; omega))) ?_; refine az ?_; refine nl (ae _ _ ?_); clear ae K8; refine xAA rfl ?_; refine mv ?_; refine vi (xAX rfl rfl (by omega) (by omega)) ?_; refine az ?_; refine nl (xAG (?_)); refine ⟨_, ⟨b, k + 1, ((out ++ (⟨#[58]⟩ : ByteArray)) ++ aN), ⟨rfl, rfl, rfl, rfl, rfl, rfl, rfl, rfl, rfl, rfl, rfl, trivial⟩, bb, by omega, by simp only [ByteArray.size_append]; omega, rfl⟩, ?_⟩; omega
   ·have bC : ¬ ((k : Int) = 0) := of_decide_eq_false ak; refine xAA rfl ?_; refine mv ?_; have bD : (⟨#[44]⟩ : ByteArray).size = 1 := rfl; refine vl (.string (out ++ (⟨#[44]⟩ : ByteArray))) (r_concat rfl rfl (by first | omega | (simp only [ByteArray.size_append]; omega))) ?_; refine az ?_; refine nl (af _ _ ?_); clear af K9; refine xAA rfl ?_; refine mv ?_; refine mv ?_; refine mv ?_; obtain ⟨bc, aO⟩ := xAe (xs := (catsI a.cats 64)) (j := k) (by omega); obtain ⟨bE, be, bf⟩ := ac.at_ _ _ aO; obtain rfl := be; have hcm := catsI_mem (List.mem_of_getElem? aO); refine vl (ptrAt ab (((k : Int)).toNat * 1)) (xAJ underlying46 sizeOf3 rfl rfl (ac.isSome (by omega)) (by omega) (by omega)) ?_; refine vi (xAv (i := 0) isAgg3 bf rfl rfl ad) ?_; refine xAD 28 rfl rfl 83 #[.int .i64 bc] (xAd call83 rfl rfl) ((RDecimal_c ad (by omega) (by omega)).mono ?_); rintro _ bF ⟨bg, aP, rfl, bh, bG⟩; have bi := aa.step bh; refine vl (.string ((out ++ (⟨#[44]⟩ : ByteArray)) ++ aP)) (r_concat rfl rfl (by first | omega | (simp only [ByteArray.size_append]; omega))) ?_; refine az ?_; refine nl (ae _ _ ?_); clear ae K8; refine xAA rfl ?_; refine mv ?_; refine vi (xAX rfl rfl (by omega) (by omega)) ?_; refine az ?_; refine nl (xAG (?_)); refine ⟨_, ⟨bg, k + 1, ((out ++ (⟨#[44]⟩ : ByteArray)) ++ aP), ⟨rfl, rfl, rfl, rfl, rfl, rfl, rfl, rfl, rfl, rfl, rfl, trivial⟩, bi, by omega, by simp only [ByteArray.size_append]; omega, rfl⟩, ?_⟩; omega
  ·have bH : ¬ ((k : Int) < (((catsI a.cats 64).length : Nat) : Int)) := of_decide_eq_false aj; refine xAc (xAC (xAC (xAM (aE _ _ ?_)))); clear aE K4 ai K6; refine rg fun bj aQ => ?_; refine mv ?_; refine az ?_; refine nl (aQ _ _ ?_); clear aQ bj; refine xAQ (?_); refine xAS (v := Value.string out) results44 (.inl rfl) rfl ?_; exact ⟨ah, _, rfl, a4, by omega⟩
theorem LCats_c {a : Label} {w : World} {C : Gh} (hH : Has w C) (ht : TabC C) : Ret prog 122 #[.agg #[.int .i64 a.level, .int .u64 (a.cats.toNat : Int)]] w fun v w' => ∃ (C' : Gh) (A' : Option Addr) (c' : Nat), v = Value.slice A' ((catsI a.cats 64).length) c' ∧ Ext w.heap.size w C w' C' ∧ Sl (kInt .i64) C' A' c' (catsI a.cats 64) := by
 refine Ret.of func122 rfl ntmps122 rfl ?_; have hE := Ext.refl (B := w.heap.size) hH; refine rg fun K1 aj => ?_; refine xAh (cs := [.int .i64 a.level, .int .u64 (a.cats.toNat : Int)]) rfl rfl rfl rfl rfl hH ?_; intro g1 w2 al e4 aD; have a7 := Nat.le_trans hE.size (Nat.le_of_eq aD); have an := hE.step e4; have aE := e4.has; have a8 := al.lt; obtain ⟨C8, m9, aF⟩ := al.commit aE; have aG := an.trans (m9.ext an.size (by omega)); have ap := m9.has; have aH := TabC.mono ht m9.le; refine az ?_; refine nl (aj _ _ ?_); clear aj K1; refine rg fun K2 aq => ?_; refine az ?_; refine nl (aq _ _ ?_); clear aq K2; refine sk fun K3 ar => ?_; refine rg fun K4 au => ?_; refine fa 1 rfl underlying29 rfl sizeOf27 ?_; refine vi (xAF isAgg27 aF rfl rfl ap) ?_; refine az ?_; refine nl (au _ _ ?_); clear au K4; refine xAI ?_; refine xAl (fun msr T af => ∃ (aa : Gh) (k : Nat) (Ao : Option Addr) (co : Nat) (out : List Int) (rest : BitVec 64), Holds T [(0, .agg #[.int .i64 a.level, .int .u64 (a.cats.toNat : Int)]), (1, .pointer (some ⟨g1, 0, none⟩)), (2, .slice none 0 0), (3, .slice Ao out.length co), (4, .int .u64 (rest.toNat : Int)), (5, .pointer (some ⟨g1, 1, none⟩)), (6, .int .u64 (a.cats.toNat : Int))] ∧ Ext (w.heap.size) w2 C8 af aa ∧ (k ≤ 64) ∧ (Sl (kInt .i64) aa Ao co out) ∧ (Own w.heap.size 3 1 af aa Ao out.length co) ∧ (out = catsI a.cats k) ∧ (gone a.cats rest k) ∧ msr = 64 - k) (64 - 0) ?_ ?_
 ·exact ⟨C8, 0, none, 0, [], a.cats, ⟨rfl, rfl, rfl, rfl, rfl, rfl, rfl, trivial⟩, Ext.refl ap, Nat.zero_le _, Sl.nil _ _ _ _, Own.nil, rfl, gone_zero _, rfl⟩
 ·rintro msr T af ⟨aa, k, Ao, co, out, rest, hT, ac, hk, hso, oo, hout, hgo, rfl⟩; refine xAi hT fun B1 => ?_; have ag := aG.trans ac; have aL := TabC.mono aH ac.le; have aM := ac.has; have hcl := catsI_len a.cats k; rw [← hout] at hcl; refine sk fun K5 ah => ?_; refine rg fun K6 aw => ?_; refine mv ?_; refine vl (.bool (!decide (rest = 0#64))) (r_neqU0 rfl rfl) ?_; refine nl (aw _ _ ?_); clear aw K6; refine cn (!decide (rest = 0#64)) (fun ai => ?_) (fun ai => ?_)
  ·have b : ¬ (rest = 0#64) := (by simpa using ai); refine xAH (ah _ _ ?_); clear ah K5; refine sk fun K7 ax => ?_; refine xAI ?_; refine xAA rfl ?_; refine mv ?_; refine mv ?_; refine xAD 15 rfl rfl 142 #[.int .u64 (rest.toNat : Int)] (xAd call142 rfl rfl) ((TZ_c (x := rest) aM aL).mono ?_); rintro _ ba ⟨rfl, ad⟩; have ay := ag.step ad; have aP := ac.trans (ad.mono ag.size); have oo_26 := oo.call ad; have aQ := ad.has; refine FWl.lit (K := kInt .i64) (xs := [(Lib.ctz 64 rest.toNat : Int)]) (cs := [.int .i64 (Lib.ctz 64 rest.toNat : Int)]) rfl rfl rfl underlying46 info3 zero3 rfl (by kernel_rfl) (.cons (cs := [.int .i64 (Lib.ctz 64 rest.toNat : Int)]) rfl .nil) rfl aQ ?_; intro bb bc be aR ab bf; have aS := ay.step ab; have aT := aP.trans (ab.mono ay.size); have oo_36 := oo_26.call ab; have aU := hso.mono ab.le; have aV := ab.has; refine FWl.app (K := kInt .i64) (B := w.heap.size) (xs := out) (ys := [(Lib.ctz 64 rest.toNat : Int)]) (sz := 1) (bytes := 8) rfl rfl rfl underlying46 info3 zero3 rfl rfl rfl rfl rfl rfl rfl aU oo_36 aR aV aS.size (by simp only [List.length_cons, List.length_nil]; omega) (by simp only [List.length_cons, List.length_nil]; omega) ?_; intro aW aX bg aY aZ a0 a1 bh; have a2 := aT.trans a1; refine az ?_; refine nl (ax _ _ ?_); clear ax K7; refine xAA rfl ?_; refine mv ?_; refine mv ?_; refine vl (.int .u64 ((rest - 1#64).toNat : Int)) (r_decU rfl rfl (by assumption)) ?_; refine vl (.int .u64 ((rest &&& (rest - 1#64)).toNat : Int)) (r_andU rfl rfl) ?_; refine az ?_; refine nl (xAG (?_)); obtain ⟨a3, a4, a5, bi⟩ := gone_next hgo (by assumption); refine ⟨_, ⟨aY, (Lib.ctz 64 rest.toNat + 1), aW, aX, out ++ ([(Lib.ctz 64 rest.toNat : Int)]), (rest &&& (rest - 1#64)), ⟨rfl, rfl, rfl, rfl, rfl, rfl, rfl, trivial⟩, a2, a5, aZ, a0, (by rw [hout]; exact a3), a4, rfl⟩, ?_⟩
   omega
  ·have bj : rest = 0#64 := (by simpa using ai); refine xAc (xAC (xAC (xAM (ar _ _ ?_)))); clear ar K3 ah K5; refine rg fun K8 aA => ?_; refine mv ?_; refine az ?_; refine nl (aA _ _ ?_); clear aA K8; refine xAQ (?_); refine xAS (v := Value.slice Ao out.length co) results122 (.inl rfl) rfl ?_; have he := gone_end hgo hk (by assumption); rw [← he] at hout; subst hout; exact ⟨aa, Ao, co, rfl, ag, hso⟩
theorem LPrint_c {a : Label} {w : World} {C : Gh} (hH : Has w C) (ht : TabC C) (hr : rightL a) : Ret prog 92 #[.agg #[.int .i64 a.level, .int .u64 (a.cats.toNat : Int)]] w fun v w' => ∃ (C' : Gh), v = Value.string (labelS a) ∧ Ext w.heap.size w C w' C' := by
 refine Ret.of func92 rfl ntmps92 rfl ?_; have hE := Ext.refl (B := w.heap.size) hH; have ba := hr.1; have bb := hr.2; refine rg fun K1 ah => ?_; refine xAh (cs := [.int .i64 a.level, .int .u64 (a.cats.toNat : Int)]) rfl rfl rfl rfl rfl hH ?_; intro g1 w2 aj e4 aL; have be := Nat.le_trans hE.size (Nat.le_of_eq aL); have al := hE.step e4; have aM := e4.has; have bf := aj.lt; obtain ⟨C8, m9, am⟩ := aj.commit aM; have aN := al.trans (m9.ext al.size (by omega)); have an := m9.has; have aO := TabC.mono ht m9.le; refine az ?_; refine nl (ah _ _ ?_); clear ah K1; refine rg fun K2 ao => ?_; refine fa 0 rfl underlying29 rfl sizeOf3 ?_; refine vi (xAF isAgg3 am rfl rfl an) ?_; refine xAD 9 rfl rfl 93 #[.int .i64 a.level] (xAd call93 rfl rfl) ((Decimal_c an (by omega) (by omega)).mono ?_); rintro _ bh ⟨bi, rfl, ab⟩; have aQ := aN.step ab; have aR := TabC.mono aO ab.le; have aS := am.mono ab.le; have ap := ab.has; refine az ?_; refine nl (ao _ _ ?_); clear ao K2; refine rg fun K3 aq => ?_; refine az ?_; refine nl (aq _ _ ?_); clear aq K3; refine sk fun K4 ar => ?_; refine rg fun K5 au => ?_; refine vl (.agg #[.int .i64 a.level, .int .u64 (a.cats.toNat : Int)]) (xAY isAgg29 sizeOf29 aS rfl ap) ?_; refine xAD 11 rfl rfl 122 #[.agg #[.int .i64 a.level, .int .u64 (a.cats.toNat : Int)]] (xAd call122 rfl rfl) ((LCats_c ap aR).mono ?_); rintro _ av ⟨aw, ax, aW, rfl, ay, aX⟩; have aY := aQ.step ay; have aZ := ay.has; refine vi (xAR underlying46 rfl) ?_; refine mv ?_; refine nl (au _ _ ?_); clear au K5; refine xAI ?_; refine xAl (fun msr T aA => ∃ (ae : Gh) (k : Nat) (out : ByteArray) (sign : ByteArray), Holds T [(0, .agg #[.int .i64 a.level, .int .u64 (a.cats.toNat : Int)]), (1, .pointer (some ⟨g1, 0, none⟩)), (2, .string ({ data := #[] })), (3, .string out), (4, .string sign), (7, .pointer (some ⟨g1, 0, none⟩)), (8, .int .i64 a.level), (9, .string (decS a.level)), (10, .agg #[.int .i64 a.level, .int .u64 (a.cats.toNat : Int)]), (11, .slice ax ((catsI a.cats 64).length) aW), (12, .int .i64 (((catsI a.cats 64).length : Nat) : Int)), (13, .int .i64 (k : Int))] ∧ Ext (av.heap.size) av aw aA ae ∧ (k ≤ (catsI a.cats 64).length) ∧ ((out, sign) = ((catsI a.cats 64).take k).foldl lpStep (decS a.level, ⟨#[58]⟩)) ∧ (out.size ≤ 2 + 3 * k) ∧ (sign.size ≤ 1) ∧ msr = (catsI a.cats 64).length - k) ((catsI a.cats 64).length - 0) ?_ ?_
 ·exact ⟨aw, 0, (decS a.level), (⟨#[58]⟩ : ByteArray), ⟨rfl, rfl, rfl, rfl, rfl, rfl, rfl, rfl, rfl, rfl, rfl, rfl, trivial⟩, Ext.refl aZ, Nat.zero_le _, rfl, decS_size _, Nat.le_refl 1, rfl⟩
 ·rintro msr T aA ⟨ae, k, out, sign, hT, ac, hk, hf, ho, hsg, rfl⟩; refine xAi hT fun B1 => ?_; have a0 := aY.step ac; have aB := aX.mono ac.le; have aC := ac.has; have hcl := catsI_len a.cats 64; refine rg fun K6 aD => ?_; refine vi (r_lss rfl rfl) ?_; refine nl (aD _ _ ?_); clear aD K6; refine sk fun K7 af => ?_; refine cn (decide ((k : Int) < (((catsI a.cats 64).length : Nat) : Int))) (fun ag => ?_) (fun ag => ?_)
  ·have bk : (k : Int) < (((catsI a.cats 64).length : Nat) : Int) := of_decide_eq_true ag; refine xAH (af _ _ ?_); clear af K7; refine sk fun K8 aF => ?_; refine xAI ?_; refine rg fun K9 aG => ?_; obtain ⟨aa, aH⟩ := xAe (xs := (catsI a.cats 64)) (j := k) (by omega); obtain ⟨bl, a4, a5⟩ := aB.at_ _ _ aH; obtain rfl := a4; have hcm := catsI_mem (List.mem_of_getElem? aH); have hds := decS_size aa; refine vl (ptrAt ax (((k : Int)).toNat * 1)) (xAJ underlying46 sizeOf3 rfl rfl (aB.isSome (by omega)) (by omega) (by omega)) ?_; refine vi (xAv (i := 0) isAgg3 a5 rfl rfl aC) ?_; refine az ?_; refine nl (aG _ _ ?_); clear aG K9; refine rg fun a6 aI => ?_; refine mv ?_; refine mv ?_; refine mv ?_; refine xAD 20 rfl rfl 93 #[.int .i64 aa] (xAd call93 rfl rfl) ((Decimal_c aC (by omega) (by omega)).mono ?_); rintro _ bm ⟨a7, rfl, a8⟩; have a9 := ac.step a8; refine vl (.string (sign ++ (decS aa))) (r_concat rfl rfl (by first | omega | (simp only [ByteArray.size_append]; omega))) ?_; refine vl (.string (out ++ (sign ++ (decS aa)))) (r_concat rfl rfl (by first | omega | (simp only [ByteArray.size_append]; omega))) ?_; refine az ?_; refine nl (aI _ _ ?_); clear aI a6; refine xAA rfl ?_; refine az ?_; refine nl (aF _ _ ?_); clear aF K8; refine xAA rfl ?_; refine vi (xAX rfl rfl (by omega) (by omega)) ?_; refine mv ?_; refine nl (xAG (?_)); refine ⟨_, ⟨a7, k + 1, (out ++ (sign ++ (decS aa))), { data := #[44] }, ⟨rfl, rfl, rfl, rfl, rfl, rfl, rfl, rfl, rfl, rfl, rfl, rfl, trivial⟩, a9, by omega, (by rw [xAz (by assumption), List.foldl_append, ← hf]; rfl), by simp only [ByteArray.size_append]; omega, by first | omega | exact Nat.le_refl 1, rfl⟩, ?_⟩; omega
  ·have bn : ¬ ((k : Int) < (((catsI a.cats 64).length : Nat) : Int)) := of_decide_eq_false ag; refine xAc (xAC (xAC (xAM (ar _ _ ?_)))); clear ar K4 af K7; refine rg fun b aJ => ?_; refine mv ?_; refine az ?_; refine nl (aJ _ _ ?_); clear aJ b; refine xAQ (?_); refine xAS (v := Value.string out) results92 (.inl rfl) rfl ?_; exact ⟨ae, congrArg Value.string (by rw [List.take_of_length_le (by omega)] at hf; exact congrArg Prod.fst hf), a0⟩

end Go.Proofs.YtlofomkhiefbmaaGreatDoor

namespace Go.Proofs
open Go.Shelf
def Tryz.lays145_ren : Go.Shelf.Ren := ⟨fun | 145 => 158 | 220 => 167 | 219 => 138 | 217 => 154 | 225 => 155 | 224 => 156 | 267 => 157 | 266 => 165 | 314 => 166 | n => n, fun | 9 => 9 | 4 => 4 | 59 => 247 | 3 => 3 | 5 => 5 | 46 => 241 | 146 => 256 | 51 => 255 | n => n, fun | 1 => 0 | n => n⟩
theorem Tryz.lays145 : Go.Proofs.Lays.n145 Tryz.prog Tryz.lays145_ren := {
  mixed := by kernel_rfl
  f145 := Tryz.func158.trans (congrArg some (by kernel_rfl))
  f217 := Tryz.func154.trans (congrArg some (by kernel_rfl))
  f219 := Tryz.func138.trans (congrArg some (by kernel_rfl))
  f220 := Tryz.func167.trans (congrArg some (by kernel_rfl))
  f224 := Tryz.func156.trans (congrArg some (by kernel_rfl))
  f225 := Tryz.func155.trans (congrArg some (by kernel_rfl))
  f266 := Tryz.func165.trans (congrArg some (by kernel_rfl))
  f267 := Tryz.func157.trans (congrArg some (by kernel_rfl))
  f314 := Tryz.func166.trans (congrArg some (by kernel_rfl))
  t3 := Tryz.underlying3
  a3 := Tryz.isAgg3
  z3 := Tryz.sizeOf3
  v3 := Tryz.zeroValue3
  t4 := Tryz.underlying4
  a4 := Tryz.isAgg4
  z4 := Tryz.sizeOf4
  v4 := Tryz.zeroValue4
  t5 := Tryz.underlying5
  a5 := Tryz.isAgg5
  z5 := Tryz.sizeOf5
  v5 := Tryz.zeroValue5
  t9 := Tryz.underlying9
  a9 := Tryz.isAgg9
  z9 := Tryz.sizeOf9
  v9 := Tryz.zeroValue9
  t46 := Tryz.underlying241
  a46 := Tryz.isAgg241
  z46 := Tryz.sizeOf241
  v46 := Tryz.zeroValue241
  t51 := Tryz.underlying255
  a51 := Tryz.isAgg255
  z51 := Tryz.sizeOf255
  v51 := Tryz.zeroValue255
  t59 := Tryz.underlying247
  a59 := Tryz.isAgg247
  z59 := Tryz.sizeOf247
  v59 := Tryz.zeroValue247
  t146 := Tryz.underlying256
  a146 := Tryz.isAgg256
  z146 := Tryz.sizeOf256
  v146 := Tryz.zeroValue256
  g1 := by kernel_rfl }
open Go.RowKit Go.Lib in
/-- strings.Cut: "Cut slices s around the first instance of sep, returning the text before and after sep. The found result reports whether sep appears in s. If sep does not appear in s, cut returns s, "", false.": IT RETURNS 'Lib.cut s sep'; the world is as it was but for the count of draws. (LAID: no walk: one application.) -/
theorem Tryz.strings_Cut (s sep : ByteArray) (m : Int) (w : World) (hs : s.size < 4294967281) (hm : w.cell? ⟨0, 0, none⟩ = some (.int .i64 m)) :
    Calls Tryz.prog 158 #[.string s, .string sep] w fun e w' => e = .returned (.tuple #[.string ⟨(Lib.cut s.data.toList sep.data.toList).1.toArray⟩, .string ⟨(Lib.cut s.data.toList sep.data.toList).2.1.toArray⟩, .bool (Lib.cut s.data.toList sep.data.toList).2.2]) ∧ ∃ n, w' = w.drewN n := Any.strings_Cut Tryz.lays145 s sep m w hs hm
def Tryz.lays99_ren : Go.Shelf.Ren := ⟨fun | 99 => 81 | 206 => 119 | n => n, fun | 9 => 9 | 4 => 4 | 3 => 3 | n => n, fun | n => n⟩
theorem Tryz.lays99 : Go.Proofs.Lays.n99 Tryz.prog Tryz.lays99_ren := {
  mixed := by kernel_rfl
  f99 := Tryz.func81.trans (congrArg some (by kernel_rfl))
  f206 := Tryz.func119.trans (congrArg some (by kernel_rfl))
  t3 := Tryz.underlying3
  a3 := Tryz.isAgg3
  z3 := Tryz.sizeOf3
  v3 := Tryz.zeroValue3
  t4 := Tryz.underlying4
  a4 := Tryz.isAgg4
  z4 := Tryz.sizeOf4
  v4 := Tryz.zeroValue4
  t9 := Tryz.underlying9
  a9 := Tryz.isAgg9
  z9 := Tryz.sizeOf9
  v9 := Tryz.zeroValue9 }
open Go.RowKit Go.Lib in
/-- strings.HasPrefix: "HasPrefix reports whether the string s begins with prefix.": IT RETURNS 'Lib.hasPrefix s prefix'; the world is as it was. (LAID: no walk: one application.) -/
theorem Tryz.strings_HasPrefix (s p : ByteArray) (w : World) :
    Calls Tryz.prog 81 #[.string s, .string p] w fun e w' => e = .returned (.bool (Lib.hasPrefix s.data.toList p.data.toList)) ∧ w' = w := Any.strings_HasPrefix Tryz.lays99 s p w
def Tryz.lays146_ren : Go.Shelf.Ren := ⟨fun | 146 => 159 | 221 => 168 | 268 => 171 | 138 => 172 | 143 => 118 | 195 => 176 | 197 => 177 | 218 => 178 | 219 => 138 | 260 => 181 | 217 => 154 | 225 => 155 | 224 => 156 | 267 => 157 | 266 => 165 | 314 => 166 | n => n, fun | 9 => 9 | 31 => 234 | 3 => 3 | 4 => 4 | 0 => 0 | 105 => 267 | 21 => 21 | 5 => 5 | 46 => 241 | 119 => 270 | 139 => 273 | 138 => 272 | 146 => 256 | 51 => 255 | n => n, fun | 1 => 0 | 3 => 2 | 4 => 3 | n => n⟩
theorem Tryz.lays146 : Go.Proofs.Lays.n146 Tryz.prog Tryz.lays146_ren := {
  mixed := by kernel_rfl
  f138 := Tryz.func172.trans (congrArg some (by kernel_rfl))
  f143 := Tryz.func118.trans (congrArg some (by kernel_rfl))
  f146 := Tryz.func159.trans (congrArg some (by kernel_rfl))
  f195 := Tryz.func176.trans (congrArg some (by kernel_rfl))
  f197 := Tryz.func177.trans (congrArg some (by kernel_rfl))
  f217 := Tryz.func154.trans (congrArg some (by kernel_rfl))
  f218 := Tryz.func178.trans (congrArg some (by kernel_rfl))
  f219 := Tryz.func138.trans (congrArg some (by kernel_rfl))
  f221 := Tryz.func168.trans (congrArg some (by kernel_rfl))
  f224 := Tryz.func156.trans (congrArg some (by kernel_rfl))
  f225 := Tryz.func155.trans (congrArg some (by kernel_rfl))
  f260 := Tryz.func181.trans (congrArg some (by kernel_rfl))
  f266 := Tryz.func165.trans (congrArg some (by kernel_rfl))
  f267 := Tryz.func157.trans (congrArg some (by kernel_rfl))
  f268 := Tryz.func171.trans (congrArg some (by kernel_rfl))
  f314 := Tryz.func166.trans (congrArg some (by kernel_rfl))
  t0 := Tryz.underlying0
  a0 := Tryz.isAgg0
  z0 := Tryz.sizeOf0
  v0 := Tryz.zeroValue0
  t3 := Tryz.underlying3
  a3 := Tryz.isAgg3
  z3 := Tryz.sizeOf3
  v3 := Tryz.zeroValue3
  t4 := Tryz.underlying4
  a4 := Tryz.isAgg4
  z4 := Tryz.sizeOf4
  v4 := Tryz.zeroValue4
  t5 := Tryz.underlying5
  a5 := Tryz.isAgg5
  z5 := Tryz.sizeOf5
  v5 := Tryz.zeroValue5
  t9 := Tryz.underlying9
  a9 := Tryz.isAgg9
  z9 := Tryz.sizeOf9
  v9 := Tryz.zeroValue9
  t21 := Tryz.underlying21
  a21 := Tryz.isAgg21
  z21 := Tryz.sizeOf21
  v21 := Tryz.zeroValue21
  t31 := Tryz.underlying234
  a31 := Tryz.isAgg234
  z31 := Tryz.sizeOf234
  v31 := Tryz.zeroValue234
  t46 := Tryz.underlying241
  a46 := Tryz.isAgg241
  z46 := Tryz.sizeOf241
  v46 := Tryz.zeroValue241
  t51 := Tryz.underlying255
  a51 := Tryz.isAgg255
  z51 := Tryz.sizeOf255
  v51 := Tryz.zeroValue255
  t105 := Tryz.underlying267
  a105 := Tryz.isAgg267
  z105 := Tryz.sizeOf267
  v105 := Tryz.zeroValue267
  t119 := Tryz.underlying270
  a119 := Tryz.isAgg270
  z119 := Tryz.sizeOf270
  t138 := Tryz.underlying272
  a138 := Tryz.isAgg272
  z138 := Tryz.sizeOf272
  v138 := Tryz.zeroValue272
  t139 := Tryz.underlying273
  a139 := Tryz.isAgg273
  z139 := Tryz.sizeOf273
  v139 := Tryz.zeroValue273
  t146 := Tryz.underlying256
  a146 := Tryz.isAgg256
  z146 := Tryz.sizeOf256
  v146 := Tryz.zeroValue256
  g1 := by kernel_rfl
  g3 := by kernel_rfl
  g4 := by kernel_rfl }
open Go.RowKit Go.Lib in
/-- strings.Split. (LAID: no walk: one application.) -/
theorem Tryz.strings_Split (s sep : ByteArray) (m : Int) (w : World) (hs : s.size < 4294967281) (hm : w.cell? ⟨0, 0, none⟩ = some (.int .i64 m)) (h1 : 1 ≤ sep.size) :
    Calls Tryz.prog 159 #[.string s, .string sep] w fun e w' =>
      e = .returned (.slice (some ⟨w.heap.size, 0, none⟩) (Lib.countB s sep + 1) (Lib.countB s sep + 1)) ∧ w' = w.alloc (.cells ((Lib.splitB sep 0 (Lib.countB s sep) s).map Value.string).toArray 9) := Any.strings_Split Tryz.lays146 (by kernel_rfl) s sep m w hs hm h1

end Go.Proofs
