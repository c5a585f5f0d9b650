/- More operations: integers, rows of integers that are written in place, cuts, copies, calls of function values. -/
import Derived.Test.YtlofomkhiefbmaaJI
import Derived.Laws.MakeOwn
import Derived.Laws.CopyRow
import Derived.Laws.Slices
import Derived.Laws.Shifts
set_option linter.unusedVariables false
namespace Go.Proofs.Ytlofomkhiefbmaa
open Go.RowKit
section
variable {P : Program} {ρ : Operand → Value} {d : Option Tmp} {ty : TypeId} {pos : String} {af : Array Edge} {gd : Option (Nat × Bool)} {w : World} {t t' : TypeId} {k : IntKind} {a b c : Int} {x y : Operand}
theorem r_negI (hx : ρ x = .int .i64 a) (h1 : -9223372036854775808 ≤ 0 - a) (h2 : 0 - a ≤ 9223372036854775807) : (execOp ρ ⟨d, .unOp .neg t x, ty, pos, af, gd⟩).run P w = .ok (.value (.int .i64 (0 - a))) w := by
  simp [execOp, hx, Op.unary, Op.intArith]
  have := wr64 h1 h2
  simpa using this
theorem r_addE (hx : ρ x = .int k a) (hy : ρ y = .int k b) (he : k.wrap (a + b) = c) : (execOp ρ ⟨d, .binOp .add t x y t', ty, pos, af, gd⟩).run P w = .ok (.value (.int k c)) w := by
  rw [r_add hx hy, he]
theorem r_subE (hx : ρ x = .int k a) (hy : ρ y = .int k b) (he : k.wrap (a - b) = c) : (execOp ρ ⟨d, .binOp .sub t x y t', ty, pos, af, gd⟩).run P w = .ok (.value (.int k c)) w := by
  rw [r_sub hx hy, he]
theorem r_mulE (hx : ρ x = .int k a) (hy : ρ y = .int k b) (he : k.wrap (a * b) = c) : (execOp ρ ⟨d, .binOp .mul t x y t', ty, pos, af, gd⟩).run P w = .ok (.value (.int k c)) w := by
  rw [r_mul hx hy, he]
theorem r_andE (hx : ρ x = .int k a) (hy : ρ y = .int k b) (he : k.wrap ((BitVec.ofInt k.bits a &&& BitVec.ofInt k.bits b).toNat : Int) = c) : (execOp ρ ⟨d, .binOp .and t x y t', ty, pos, af, gd⟩).run P w = .ok (.value (.int k c)) w := by
  simp [execOp, hx, hy, eqGuard, binOp, Op.intBits]
  simpa using he
theorem r_shrE {yk : IntKind} (hx : ρ x = .int k a) (hy : ρ y = .int yk b) (h0 : 0 ≤ b) (he : a / 2 ^ min b.toNat k.bits = c) : (execOp ρ ⟨d, .binOp .shr t x y t', ty, pos, af, gd⟩).run P w = .ok (.value (.int k c)) w := by
  simp [execOp, hx, hy, eqGuard, binOp, shift_shr_any k yk a b h0, he]
theorem r_quoE (hx : ρ x = .int k a) (hy : ρ y = .int k b) (h0 : b ≠ 0) (he : k.wrap (a.tdiv b) = c) : (execOp ρ ⟨d, .binOp .quo t x y t', ty, pos, af, gd⟩).run P w = .ok (.value (.int k c)) w := by
  simp [execOp, hx, hy, eqGuard, binOp, Op.intDiv, h0, he]
theorem r_remE (hx : ρ x = .int k a) (hy : ρ y = .int k b) (h0 : b ≠ 0) (he : a.tmod b = c) : (execOp ρ ⟨d, .binOp .rem t x y t', ty, pos, af, gd⟩).run P w = .ok (.value (.int k c)) w := by
  simp [execOp, hx, hy, eqGuard, binOp, Op.intDiv, h0, he]
theorem r_convI {k k' k1 : IntKind} (hs : ∀ w, (underlying t).run P w = .ok (.int k1) w) (hd : ∀ w, (underlying t').run P w = .ok (.int k') w) (hx : ρ x = .int k a) (he : k'.wrap a = c) : (execOp ρ ⟨d, .convert t t' x, ty, pos, af, gd⟩).run P w = .ok (.value (.int k' c)) w := by
  simp [execOp, hx, convert, hs, hd, Conv.intToInt, he]
theorem r_concat {s s' : ByteArray} (hx : ρ x = .string s) (hy : ρ y = .string s') (h : s.size + s'.size ≤ 9223372036854775807) : (execOp ρ ⟨d, .binOp .add t x y t', ty, pos, af, gd⟩).run P w = .ok (.value (.string (s ++ s'))) w := by
  have : ¬ (9223372036854775807 : Int) < (s.size : Int) + s'.size := by omega
  have hm : IntKind.i64.max = 9223372036854775807 := rfl
  simp [execOp, hx, hy, eqGuard, binOp, Op.stringOp, hm, this]

theorem and_mask {n : Int} (h0 : 0 ≤ n) (h1 : n < 4294967296) : IntKind.u64.wrap ((BitVec.ofInt IntKind.u64.bits n &&& BitVec.ofInt IntKind.u64.bits 4294967295).toNat : Int) = n := by
  obtain ⟨m, rfl⟩ := Int.eq_ofNat_of_zero_le h0
  have hm : m < 4294967296 := by omega
  have e1 : (BitVec.ofInt IntKind.u64.bits (m : Int) &&& BitVec.ofInt IntKind.u64.bits 4294967295).toNat = m := by
    rw [BitVec.toNat_and]
    have a1 : (BitVec.ofInt IntKind.u64.bits (m : Int)).toNat = m := by
      rw [show IntKind.u64.bits = 64 from rfl, BitVec.ofInt_natCast, BitVec.toNat_ofNat]
      omega
    have a2 : (BitVec.ofInt IntKind.u64.bits 4294967295).toNat = 4294967295 := by rfl
    rw [a1, a2, show (4294967295 : Nat) = 2 ^ 32 - 1 from rfl, Nat.and_two_pow_sub_one_eq_mod]
    omega
  rw [e1, IntKind.wrap_u64]
  omega

/-! ### rows of integers that are written in place -/
abbrev ri (xs : List Int) : List Value := xs.map (Value.int .i64)
theorem ri_at {xs : List Int} {i : Nat} {v : Int} (h : xs[i]? = some v) : (ri xs)[i]? = some (.int .i64 v) := by simp [ri, h]
theorem ri_set (xs : List Int) (i : Nat) (v : Int) (h : i < xs.length) : putAt (ri xs) i [.int .i64 v] = ri (xs.set i v) := by
  apply List.ext_getElem?
  intro j
  simp only [putAt, ri, List.map_set]
  rw [List.getElem?_set]
  by_cases h1 : i = j
  · subst h1
    rw [List.append_assoc, List.getElem?_append_right (by simp; omega)]
    simp [h]
    rw [show i - min i xs.length = 0 by omega]; rfl
  · rw [if_neg h1]
    by_cases h2 : j < i
    · rw [List.append_assoc, List.getElem?_append_left (by simp; omega), List.getElem?_take_of_lt h2]
    · rw [List.getElem?_append_right (by simp; omega), List.getElem?_drop]
      congr 1
      simp
      omega
theorem r_indexAddrI {ix : Operand} {e : TypeId} {g n c : Nat} {i : Int} (hu : P.underlying t = some (.slice e)) (hs : ∀ w, (sizeOf e).run P w = .ok 1 w) (hx : ρ x = .slice (some ⟨g, 0, none⟩) n c) (hi : ρ ix = .int .i64 i) (h0 : 0 ≤ i) (h1 : i < n) :
    (execOp ρ ⟨d, .indexAddr t x ix, ty, pos, af, gd⟩).run P w = .ok (.value (.pointer (some ⟨g, i.toNat, none⟩))) w := by
  rw [r_indexAddr hu hs hx hi rfl h0 h1]
  simp [ptrAt, Addr.add_lit]
theorem new_makeI {C : Gh} {x y : Operand} {e : TypeId} {ie : TypeInfo} {n : Nat} (ht : P.underlying t = some (.slice e)) (hi : P.info? e = some ie) (hz : ie.zero = some (.int .i64 0)) (hsz : ie.size = 1) (hb : ie.bytes = 8) (hx : ρ x = .int .i64 (n : Int)) (hy : ρ y = .int .i64 (n : Int)) (hn : n ≤ 17592186044416) (hH : Has w C) :
    ∃ g w', (execOp ρ ⟨d, .makeSlice t x y, ty, pos, af, gd⟩).run P w = .ok (.value (.slice (some ⟨g, 0, none⟩) n n)) w' ∧ St w' C g (ri (List.replicate n 0)) e ∧ Ext w.heap.size w C w' C ∧ w.heap.size = g := by
  have hrun := run_make (P := P) w t e ie _ ht hi hz .i64 .i64 n n (by omega) (by omega) (by rw [hb]; omega) (by omega)
  have hc : madeCells (Value.int .i64 0).cells (((n : Int)).toNat * ie.size) = (ri (List.replicate n 0)).toArray := by
    rw [hsz]
    simp only [madeCells, Value.cells]
    apply Array.ext
    · simp
    · intro i h1 h2
      simp [ri, Nat.mod_one]
  rw [hc] at hrun
  refine ⟨_, _, ?_, alloc_st hH _ _, alloc_ext hH _, rfl⟩
  simp only [execOp, hx, hy, Sem.run_bind, hrun, Result.andThen_ok, Sem.run_pure, Int.toNat_natCast]
theorem run_copyAt {C : Gh} {dT sT ty : TypeId} {e te : TypeId} {g o dLen dCap sLen sCap : Nat} {a : Addr} {cur cs : List Value} (hu : P.underlying dT = some (.slice e)) (hs : (P.info? e).map (·.size) = some 1) (hst : St w C g cur te) (hH : Has w C)
    (hn : cs.length = Nat.min sLen dLen) (hsrc : ∀ j v, cs[j]? = some v → w.cell? (a.add j) = some v) (hfit : o + cs.length ≤ cur.length) (h1 : ∀ v ∈ cs, v.oneCell' = true) :
    ∃ w', (Builtin.copy_ #[dT, sT] ty #[.slice (some ⟨g, o, none⟩) dLen dCap, .slice (some a) sLen sCap]).run P w = .ok (.int .i64 (cs.length : Int)) w' ∧ Mut g w C w' C ∧ St w' C g (putAt cur o cs) te := by
  have := run_copy_row (P := P) w dT sT ty e g o dLen dCap a sLen sCap cur.toArray te cs hu hs hst.blk hn hsrc (by simpa using hfit) h1
  refine ⟨_, this, ?_⟩
  have h2 := setRow_mut (cs := putAt cur o cs) hst hH
  simpa [putAt] using h2
theorem new_copyI {C : Gh} {xs ys : List Int} {e : TypeId} {g n c2 : Nat} {A2 : Option Addr} (hu : P.underlying t = some (.slice e)) (hs : (P.info? e).map (·.size) = some 1) (hst : St w C g (ri xs) e) (h2 : Sl (kInt .i64) C A2 c2 ys) (hl : xs.length = ys.length) (hH : Has w C) (hpos : 0 < ys.length)
    (hx : ρ x = .slice (some ⟨g, 0, none⟩) n n) (hy : ρ y = .slice A2 ys.length c2) (hn : n = ys.length) :
    ∃ w', (execOp ρ ⟨d, .call { callee := .builtin .copy, args := #[x, y], argTypes := #[t, t'] }, ty, pos, af, gd⟩).run P w = .ok (.value (.int .i64 (ys.length : Int))) w' ∧ Mut g w C w' C ∧ St w' C g (ri ys) e := by
  obtain ⟨cs, hr, hsg⟩ := h2.row
  obtain ⟨g2, o2, rfl, hseg⟩ := hsg hpos
  have hcs : cs = ri ys := by
    clear hseg hsg hy hn hpos hl h2
    induction hr with
    | nil => rfl
    | cons h t ih => rename_i x0 _ _ _; have := h; simp only [kInt] at this; subst this; rw [ih]; rfl
  subst hcs
  obtain ⟨w', h3, h4, h5⟩ := run_copyAt (P := P) (dT := t) (sT := t') (ty := ty) (dLen := n) (dCap := n) (sLen := ys.length) (sCap := c2) (o := 0) (a := ⟨g2, o2, none⟩) (cs := ri ys) hu hs hst hH (by subst hn; simp) (fun j v hj => by rw [add_lit]; exact hH _ _ _ (hseg j v hj)) (by simp [hl]) hr.one
  refine ⟨w', ?_, h4, ?_⟩
  · have h3' := h3
    simp only [List.length_map] at h3'
    simp [execOp, hx, hy, resolve, invoke, builtin, h3']
  · have : putAt (ri xs) 0 (ri ys) = ri ys := by simp [putAt, hl]
    rwa [this] at h5
theorem sl_row {C : Gh} {A : Option Addr} {c : Nat} {ys : List Int} (h : Sl (kInt .i64) C A c ys) (hp : 0 < ys.length) : ∃ g o, A = some ⟨g, o, none⟩ ∧ Seg C g o (ri ys) := by
  obtain ⟨cs, hr, hsg⟩ := h.row
  obtain ⟨g2, o2, rfl, hseg⟩ := hsg hp
  have hcs : cs = ri ys := by
    clear hseg hsg hp h
    induction hr with
    | nil => rfl
    | cons h t ih => rename_i x0 _ _ _; have := h; simp only [kInt] at this; subst this; rw [ih]; rfl
  exact ⟨g2, o2, rfl, hcs ▸ hseg⟩
theorem ri_one (xs : List Int) : ∀ v ∈ ri xs, v.oneCell' = true := by
  intro v hv
  obtain ⟨x, _, rfl⟩ := List.mem_map.1 hv
  rfl
/-- A shorter row is copied ahead. -/
theorem new_copyH {C : Gh} {xs ys : List Int} {e : TypeId} {g n c2 : Nat} {A2 : Option Addr} (hu : P.underlying t = some (.slice e)) (hs : (P.info? e).map (·.size) = some 1) (hst : St w C g (ri xs) e) (h2 : Sl (kInt .i64) C A2 c2 ys) (hl : ys.length ≤ n) (hH : Has w C) (hpos : 0 < ys.length)
    (hx : ρ x = .slice (some ⟨g, 0, none⟩) n n) (hy : ρ y = .slice A2 ys.length c2) (hn : xs.length = n) :
    ∃ w', (execOp ρ ⟨d, .call { callee := .builtin .copy, args := #[x, y], argTypes := #[t, t'] }, ty, pos, af, gd⟩).run P w = .ok (.value (.int .i64 (ys.length : Int))) w' ∧ Mut g w C w' C ∧ St w' C g (ri (ys ++ xs.drop ys.length)) e := by
  obtain ⟨g2, o2, rfl, hseg⟩ := sl_row h2 hpos
  obtain ⟨w', h3, h4, h5⟩ := run_copyAt (P := P) (dT := t) (sT := t') (ty := ty) (dLen := n) (dCap := n) (sLen := ys.length) (sCap := c2) (o := 0) (a := ⟨g2, o2, none⟩) (cs := ri ys) hu hs hst hH (by show (ri ys).length = min ys.length n; simp; omega) (fun j v hj => by rw [add_lit]; exact hH _ _ _ (hseg j v hj)) (by simp; omega) (ri_one _)
  refine ⟨w', ?_, h4, ?_⟩
  · have h3' := h3
    simp only [List.length_map] at h3'
    simp [execOp, hx, hy, resolve, invoke, builtin, h3']
  · have : putAt (ri xs) 0 (ri ys) = ri (ys ++ xs.drop ys.length) := by simp [putAt, ri]
    rwa [this] at h5
theorem new_copyW {C : Gh} {xs : List Int} {e : TypeId} {g n k c1 : Nat} (hu : P.underlying t = some (.slice e)) (hs : (P.info? e).map (·.size) = some 1) (hst : St w C g (ri xs) e) (hH : Has w C)
    (hx : ρ x = .slice (some ⟨g, k, none⟩) (n - k) c1) (hy : ρ y = .slice (some ⟨g, 0, none⟩) k n) (hn : xs.length = n) (hk : k ≤ n) :
    ∃ w', (execOp ρ ⟨d, .call { callee := .builtin .copy, args := #[x, y], argTypes := #[t, t'] }, ty, pos, af, gd⟩).run P w = .ok (.value (.int .i64 ((min k (n - k) : Nat) : Int))) w' ∧ Mut g w C w' C ∧ St w' C g (ri (xs.take k ++ xs.take (min k (n - k)) ++ xs.drop (k + min k (n - k)))) e := by
  have hl : (ri (xs.take (min k (n - k)))).length = min k (n - k) := by simp; omega
  obtain ⟨w', h3, h4, h5⟩ := run_copyAt (P := P) (dT := t) (sT := t') (ty := ty) (dLen := n - k) (dCap := c1) (sLen := k) (sCap := n) (o := k) (a := ⟨g, 0, none⟩) (cs := ri (xs.take (min k (n - k)))) hu hs hst hH hl (fun j v hj => by
    rw [add_lit, Nat.zero_add]
    refine hst.cell ?_
    rw [ri, List.map_take, List.getElem?_take] at hj
    split at hj
    · exact hj
    · cases hj) (by rw [hl]; simp; omega) (ri_one _)
  refine ⟨w', ?_, h4, ?_⟩
  · rw [hl] at h3
    simp [execOp, hx, hy, resolve, invoke, builtin, h3]
  · have : putAt (ri xs) k (ri (xs.take (min k (n - k)))) = ri (xs.take k ++ xs.take (min k (n - k)) ++ xs.drop (k + min k (n - k))) := by
      rw [putAt, hl]; simp only [ri, List.map_append, List.map_take, List.map_drop]
    rwa [this] at h5
/-! ### cuts -/
theorem r_slice3 {A : Option Addr} {e : TypeId} {n c sz : Nat} {l h m : Int} {xl xh xm : Operand} (hu : P.underlying t = some (.slice e)) (hs : ∀ w, (sizeOf e).run P w = .ok sz w) (hx : ρ x = .slice A n c) (hl : ρ xl = .int .i64 l) (hh : ρ xh = .int .i64 h) (hm : ρ xm = .int .i64 m) (h0 : 0 ≤ l) (h1 : l ≤ h) (h2 : h ≤ m) (h3 : m ≤ c) :
    (execOp ρ ⟨d, .slice t x (some xl) (some xh) (some xm), ty, pos, af, gd⟩).run P w = .ok (.value (.slice (if m.toNat = l.toNat then A else A.map (·.add (l.toNat * sz))) (h.toNat - l.toNat) (m.toNat - l.toNat))) w := by
  have e1 : 0 ≤ h := by omega
  have e2 : 0 ≤ m := by omega
  have e3 : max h 0 = h := by omega
  have e4 : max m 0 = m := by omega
  simp [e3, e4, execOp, hx, hl, hh, hm, Instr.sliceAt, Instr.slice, underlying, hu, Instr.sliceBounds, Instr.sliceBound, asIntOf, e1, e2, h0, h1, h2, h3, hs, Int.toNat_of_nonneg]
theorem r_slice2 {A : Option Addr} {e : TypeId} {n c sz : Nat} {l h : Int} {xl xh : Operand} (hu : P.underlying t = some (.slice e)) (hs : ∀ w, (sizeOf e).run P w = .ok sz w) (hx : ρ x = .slice A n c) (hl : ρ xl = .int .i64 l) (hh : ρ xh = .int .i64 h) (h0 : 0 ≤ l) (h1 : l ≤ h) (h3 : h ≤ c) :
    (execOp ρ ⟨d, .slice t x (some xl) (some xh) none, ty, pos, af, gd⟩).run P w = .ok (.value (.slice (if c = l.toNat then A else A.map (·.add (l.toNat * sz))) (h.toNat - l.toNat) (c - l.toNat))) w := by
  have e1 : 0 ≤ h := by omega
  have e3 : max h 0 = h := by omega
  simp [e3, execOp, hx, hl, hh, Instr.sliceAt, Instr.slice, underlying, hu, Instr.sliceBounds, Instr.sliceBound, asIntOf, e1, h0, h1, h3, hs, Int.toNat_of_nonneg]
theorem r_sliceH {A : Option Addr} {e : TypeId} {n c sz : Nat} {h : Int} {xh : Operand} (hu : P.underlying t = some (.slice e)) (hs : ∀ w, (sizeOf e).run P w = .ok sz w) (hx : ρ x = .slice A n c) (hh : ρ xh = .int .i64 h) (h0 : 0 ≤ h) (h3 : h ≤ c) :
    (execOp ρ ⟨d, .slice t x none (some xh) none, ty, pos, af, gd⟩).run P w = .ok (.value (.slice (if c = 0 then A else A.map (·.add 0)) h.toNat c)) w := by
  simp [execOp, hx, hh, Instr.sliceAt, Instr.slice, underlying, hu, Instr.sliceBounds, Instr.sliceBound, asIntOf, h0, h3, hs, Int.toNat_of_nonneg]
theorem r_sliceL {A : Option Addr} {e : TypeId} {n c sz : Nat} {l : Int} {xl : Operand} (hu : P.underlying t = some (.slice e)) (hs : ∀ w, (sizeOf e).run P w = .ok sz w) (hx : ρ x = .slice A n c) (hl : ρ xl = .int .i64 l) (h0 : 0 ≤ l) (h1 : l ≤ n) :
    (execOp ρ ⟨d, .slice t x (some xl) none none, ty, pos, af, gd⟩).run P w = .ok (.value (.slice (if c = l.toNat then A else A.map (·.add (l.toNat * sz))) (n - l.toNat) (c - l.toNat))) w := by
  simp [execOp, hx, hl, Instr.sliceAt, Instr.slice, underlying, hu, Instr.sliceBounds, Instr.sliceBound, asIntOf, h0, h1, hs, Int.toNat_of_nonneg]
theorem r_sliceLI {e : TypeId} {g n k : Nat} {xl : Operand} (hu : P.underlying t = some (.slice e)) (hs : ∀ w, (sizeOf e).run P w = .ok 1 w) (hx : ρ x = .slice (some ⟨g, 0, none⟩) n n) (hl : ρ xl = .int .i64 (k : Int)) (h1 : k < n) :
    (execOp ρ ⟨d, .slice t x (some xl) none none, ty, pos, af, gd⟩).run P w = .ok (.value (.slice (some ⟨g, k, none⟩) (n - k) (n - k))) w := by
  rw [r_sliceL hu hs hx hl (by omega) (by omega), if_neg (by simp; omega)]
  simp [add_lit]
theorem r_sliceHI {e : TypeId} {g n k : Nat} {xh : Operand} (hu : P.underlying t = some (.slice e)) (hs : ∀ w, (sizeOf e).run P w = .ok 1 w) (hx : ρ x = .slice (some ⟨g, 0, none⟩) n n) (hh : ρ xh = .int .i64 (k : Int)) (h3 : k ≤ n) :
    (execOp ρ ⟨d, .slice t x none (some xh) none, ty, pos, af, gd⟩).run P w = .ok (.value (.slice (some ⟨g, 0, none⟩) k n)) w := by
  rw [r_sliceH hu hs hx hh (by omega) (by omega)]
  simp [add_lit]
theorem map_add0 (A : Option Addr) : A.map (·.add 0) = A := by
  cases A with
  | none => rfl
  | some a => obtain ⟨b, o, s⟩ := a; cases s <;> simp [Addr.add]
theorem r_sliceStr {s : ByteArray} {l h : Int} {xl xh : Operand} (hu : P.underlying t = some .string) (hx : ρ x = .string s) (hl : ρ xl = .int .i64 l) (hh : ρ xh = .int .i64 h) (h0 : 0 ≤ l) (h1 : l ≤ h) (h3 : h ≤ s.size) :
    (execOp ρ ⟨d, .slice t x (some xl) (some xh) none, ty, pos, af, gd⟩).run P w = .ok (.value (.string (s.extract l.toNat h.toNat))) w := by
  have e1 : 0 ≤ h := by omega
  have e3 : max h 0 = h := by omega
  simp [e3, execOp, hx, hl, hh, Instr.sliceAt, Instr.slice, underlying, hu, Instr.sliceBounds, Instr.sliceBound, asIntOf, e1, h0, h1, h3, Int.toNat_of_nonneg]
/-! ### calls of function values -/
variable {f : FuncId} {ts : Array TypeId} {a0 a1 a2 cl : Operand} {v0 v1 v2 : Value} {cap : Array Value}
theorem r_callV1 (hcall : ∀ (args : Array Value) (w : World), (callFunc f args).run P w = .ok (.enter f args) w) (hf : ρ cl = .func (.func f) #[] cap) (h0 : ρ a0 = v0) {r : Array Value} (hr : #[v0] ++ cap = r) :
    (execOp ρ ⟨d, .call { callee := .value cl, args := #[a0], argTypes := ts }, ty, pos, af, gd⟩).run P w = .ok (.enter f r) w := by
  subst hr
  simp [execOp, resolve, hf, Deferred.ofValue, invoke, hcall, h0]
theorem r_callV2 (hcall : ∀ (args : Array Value) (w : World), (callFunc f args).run P w = .ok (.enter f args) w) (hf : ρ cl = .func (.func f) #[] cap) (h0 : ρ a0 = v0) (h1 : ρ a1 = v1) {r : Array Value} (hr : #[v0, v1] ++ cap = r) :
    (execOp ρ ⟨d, .call { callee := .value cl, args := #[a0, a1], argTypes := ts }, ty, pos, af, gd⟩).run P w = .ok (.enter f r) w := by
  subst hr
  simp [execOp, resolve, hf, Deferred.ofValue, invoke, hcall, h0, h1]
theorem r_callV3 (hcall : ∀ (args : Array Value) (w : World), (callFunc f args).run P w = .ok (.enter f args) w) (hf : ρ cl = .func (.func f) #[] cap) (h0 : ρ a0 = v0) (h1 : ρ a1 = v1) (h2 : ρ a2 = v2) {r : Array Value} (hr : #[v0, v1, v2] ++ cap = r) :
    (execOp ρ ⟨d, .call { callee := .value cl, args := #[a0, a1, a2], argTypes := ts }, ty, pos, af, gd⟩).run P w = .ok (.enter f r) w := by
  subst hr
  simp [execOp, resolve, hf, Deferred.ofValue, invoke, hcall, h0, h1, h2]
end
section
variable {P : Program} {N : Nat} {Q : Exit → Fr → World → Prop} {T : Fr} {w : World} {ops : Array Oper} {S : World → Prop} {zs : List Nat} {i : Nat} {o : Oper} {C : Gh} {t t' e : TypeId} {d n : Nat} {x y : Operand}
theorem FWl.makeI {l : List Oper} {ie : TypeInfo} (ho : o.op = .makeSlice t x y) (hd : o.dst = some d) (hw : wantedF ops T o = true) (ht : P.underlying t = some (.slice e)) (hi : P.info? e = some ie) (hz : ie.zero = some (.int .i64 0)) (hsz : ie.size = 1) (hb : ie.bytes = 8)
    (hx : ev T x = .int .i64 (n : Int)) (hy : ev T y = .int .i64 (n : Int)) (hn : n ≤ 17592186044416) (hH : Has w C)
    (h : ∀ g w', St w' C g (ri (List.replicate n 0)) e → Ext w.heap.size w C w' C → w.heap.size = g → FWl P N ops Q l (upd T d (.slice (some ⟨g, 0, none⟩) n n)) w') : FWl P N ops Q (o :: l) T w := by
  obtain ⟨dst, op, ty, pos, af, gd⟩ := o; cases ho
  obtain ⟨g, w', hr, h1, h2, h3⟩ := new_makeI (P := P) (ρ := ev T) (d := dst) (ty := ty) (pos := pos) (af := af) (gd := gd) ht hi hz hsz hb hx hy hn hH
  exact FWl.val d hd hw _ _ hr (h g w' h1 h2 h3)
theorem FWl.copyI {l : List Oper} {xs ys : List Int} {g c2 : Nat} {A2 : Option Addr} (ho : o.op = .call { callee := .builtin .copy, args := #[x, y], argTypes := #[t, t'] }) (hd : o.dst = some d) (hw : wantedF ops T o = true) (hu : P.underlying t = some (.slice e)) (hs : (P.info? e).map (·.size) = some 1)
    (hst : St w C g (ri xs) e) (h2 : Sl (kInt .i64) C A2 c2 ys) (hl : xs.length = ys.length) (hH : Has w C) (hpos : 0 < ys.length) (hx : ev T x = .slice (some ⟨g, 0, none⟩) n n) (hy : ev T y = .slice A2 ys.length c2) (hn : n = ys.length)
    (h : ∀ w', Mut g w C w' C → St w' C g (ri ys) e → FWl P N ops Q l (upd T d (.int .i64 (ys.length : Int))) w') : FWl P N ops Q (o :: l) T w := by
  obtain ⟨dst, op, ty, pos, af, gd⟩ := o; cases ho
  obtain ⟨w', hr, h3, h4⟩ := new_copyI (P := P) (ρ := ev T) (d := dst) (ty := ty) (pos := pos) (af := af) (gd := gd) hu hs hst h2 hl hH hpos hx hy hn
  exact FWl.val d hd hw _ _ hr (h w' h3 h4)
theorem FWl.copyH {l : List Oper} {xs ys : List Int} {g c2 : Nat} {A2 : Option Addr} (ho : o.op = .call { callee := .builtin .copy, args := #[x, y], argTypes := #[t, t'] }) (hd : o.dst = some d) (hw : wantedF ops T o = true) (hu : P.underlying t = some (.slice e)) (hs : (P.info? e).map (·.size) = some 1)
    (hst : St w C g (ri xs) e) (h2 : Sl (kInt .i64) C A2 c2 ys) (hl : ys.length ≤ n) (hH : Has w C) (hpos : 0 < ys.length) (hx : ev T x = .slice (some ⟨g, 0, none⟩) n n) (hy : ev T y = .slice A2 ys.length c2) (hn : xs.length = n)
    (h : ∀ w', Mut g w C w' C → St w' C g (ri (ys ++ xs.drop ys.length)) e → FWl P N ops Q l (upd T d (.int .i64 (ys.length : Int))) w') : FWl P N ops Q (o :: l) T w := by
  obtain ⟨dst, op, ty, pos, af, gd⟩ := o; cases ho
  obtain ⟨w', hr, h3, h4⟩ := new_copyH (P := P) (ρ := ev T) (d := dst) (ty := ty) (pos := pos) (af := af) (gd := gd) hu hs hst h2 hl hH hpos hx hy hn
  exact FWl.val d hd hw _ _ hr (h w' h3 h4)
theorem FWs.copyW {l : List (Nat × Bool)} {xs : List Int} {g k c1 : Nat} (hi : ops[i]? = some o) (ho : o.op = .call { callee := .builtin .copy, args := #[x, y], argTypes := #[t, t'] }) (hd : o.dst = some d) (hw : wantedF ops T o = true) (hu : P.underlying t = some (.slice e)) (hs : (P.info? e).map (·.size) = some 1)
    (hst : St w C g (ri xs) e) (hH : Has w C) (hx : ev T x = .slice (some ⟨g, k, none⟩) (n - k) c1) (hy : ev T y = .slice (some ⟨g, 0, none⟩) k n) (hn : xs.length = n) (hk : k ≤ n)
    (h : ∀ w', Mut g w C w' C → St w' C g (ri (xs.take k ++ xs.take (min k (n - k)) ++ xs.drop (k + min k (n - k)))) e → (zs.contains i = true ∨ S w') ∧ FWs P N ops Q S zs l (upd T d (.int .i64 ((min k (n - k) : Nat) : Int))) w') : FWs P N ops Q S zs ((i, false) :: l) T w := by
  obtain ⟨dst, op, ty, pos, af, gd⟩ := o; cases ho
  obtain ⟨w', hr, h3, h4⟩ := new_copyW (P := P) (ρ := ev T) (d := dst) (ty := ty) (pos := pos) (af := af) (gd := gd) hu hs hst hH hx hy hn hk
  exact FWs.val hi d hd hw _ _ hr (h w' h3 h4).1 (h w' h3 h4).2
variable {p : Operand} {g k ts : Nat} {xs : List Int} {v : Int}
theorem FWl.storeI {l : List Oper} (ho : o.op = .store t p x) (hd : o.dst = none) (hw : wantedF ops T o = true) (hs : ∀ w, (sizeOf t).run P w = .ok 1 w) (hst : St w C g (ri xs) ts) (hH : Has w C)
    (hp : ev T p = .pointer (some ⟨g, k, none⟩)) (hx : ev T x = .int .i64 v) (hl : k < xs.length)
    (h : ∀ w', Mut g w C w' C → St w' C g (ri (xs.set k v)) ts → FWl P N ops Q l T w') : FWl P N ops Q (o :: l) T w := by
  obtain ⟨dst, op, ty, pos, af, gd⟩ := o; cases ho
  obtain ⟨w', hr, h2, h3⟩ := r_storeSt (P := P) (ρ := ev T) (d := dst) (ty := ty) (pos := pos) (af := af) (gd := gd) (vs := [.int .i64 v]) hs rfl hst hH hp hx rfl rfl (by simp; omega)
  rw [ri_set xs k v hl] at h3
  exact FWl.unit hd hw _ hr (h w' h2 h3)
theorem FWs.storeI {l : List (Nat × Bool)} (hi : ops[i]? = some o) (ho : o.op = .store t p x) (hd : o.dst = none) (hw : wantedF ops T o = true) (hs : ∀ w, (sizeOf t).run P w = .ok 1 w) (hst : St w C g (ri xs) ts) (hH : Has w C)
    (hp : ev T p = .pointer (some ⟨g, k, none⟩)) (hx : ev T x = .int .i64 v) (hl : k < xs.length)
    (h : ∀ w', Mut g w C w' C → St w' C g (ri (xs.set k v)) ts → (zs.contains i = true ∨ S w') ∧ FWs P N ops Q S zs l T w') : FWs P N ops Q S zs ((i, false) :: l) T w := by
  obtain ⟨dst, op, ty, pos, af, gd⟩ := o; cases ho
  obtain ⟨w', hr, h2, h3⟩ := r_storeSt (P := P) (ρ := ev T) (d := dst) (ty := ty) (pos := pos) (af := af) (gd := gd) (vs := [.int .i64 v]) hs rfl hst hH hp hx rfl rfl (by simp; omega)
  rw [ri_set xs k v hl] at h3
  exact FWs.unit hi hd hw _ hr (h w' h2 h3).1 (h w' h2 h3).2
end
theorem SS.mutN {C C1 C2 : Gh} {M : Nat → Prop} {WS w w2 : World} {g : Nat} (h : SS C M WS w) (m : Mut g w C1 w2 C2) (hH : Has w2 C2) (hle : Gle C C2) (hM : ¬ M g) : SS C M WS w2 :=
  ⟨fun b o v e => hH b o v (hle b o v e), Nat.le_trans h.size m.size, fun k hk hm => (m.grown.block k (Nat.lt_of_lt_of_le hk h.size) (by simp; intro e; subst e; exact hM hm)).trans (h.blk k hk hm)⟩
/-- A row of integers that is only read from here on. -/
theorem St.commitI {w : World} {C : Gh} {g t : Nat} {xs : List Int} (h : St w C g (ri xs) t) (hH : Has w C) (hb : xs.length ≤ 140737488355328) : ∃ C', Mut g w C w C' ∧ Sl (kInt .i64) C' (some ⟨g, 0, none⟩) xs.length xs := by
  obtain ⟨C', m, hc⟩ := h.commit hH
  refine ⟨C', m, ?_⟩
  obtain ⟨g', o, hA, hs⟩ := hc
  cases hA
  have hr : RowR (kInt .i64) C' xs (ri xs) := by
    clear h hs hb
    induction xs with
    | nil => exact .nil
    | cons x xs ih => exact .cons (cs := [.int .i64 x]) rfl ih
  exact Sl.of_row hr (by simpa using hs) (Nat.le_refl _) hb
/-- A pointer to cells that are only read. -/
theorem CellsG.cell {C : Gh} {w : World} {g j : Nat} {cs : List Value} {v : Value} (h : CellsG C (some ⟨g, 0, none⟩) 0 cs) (hH : Has w C) (hj : cs[j]? = some v) : w.cell? ⟨g, j, none⟩ = some v := by
  obtain ⟨g', o, hA, hs⟩ := h
  cases hA
  have := hs j v hj
  simp only [Nat.zero_add] at this
  exact hH _ _ _ this
theorem rep_head {n : Nat} {x : Int} (h : 1 ≤ n) : ([x] ++ (List.replicate n (0 : Int)).drop [x].length).take 1 = List.replicate 1 x := by simp
theorem rep_dbl {k n : Nat} {x : Int} {row : List Int} (hl : row.length = n) (h : row.take k = List.replicate k x) (hk : k ≤ n) : (row.take k ++ row.take (min k (n - k)) ++ row.drop (k + min k (n - k))).take (k + min k (n - k)) = List.replicate (k + min k (n - k)) x := by
  have h2 : row.take (min k (n - k)) = List.replicate (min k (n - k)) x := by
    have : row.take (min k (n - k)) = (row.take k).take (min k (n - k)) := by rw [List.take_take]; congr 1; omega
    rw [this, h, List.take_replicate]; congr 1; omega
  rw [h, h2, List.replicate_append_replicate, List.take_append_of_le_length (by simp), List.take_of_length_le (by simp)]
theorem rep_len {k n : Nat} {row : List Int} (hl : row.length = n) (hk : k ≤ n) : (row.take k ++ row.take (min k (n - k)) ++ row.drop (k + min k (n - k))).length = n := by
  simp; omega
end Go.Proofs.Ytlofomkhiefbmaa
