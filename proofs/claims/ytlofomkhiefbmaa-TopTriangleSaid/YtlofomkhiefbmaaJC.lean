/- The ghost heap of committed cells: what is written once and then only read. Slices and structs that read as data. -/
import Derived.Test.YtlofomkhiefbmaaJB
import Derived.Laws.Cells
import Derived.Laws.AppendOwn
import Derived.Laws.MakeOwn
import Derived.Laws.Tables
set_option linter.unusedVariables false
namespace Go.Proofs.Ytlofomkhiefbmaa
open Go.RowKit

abbrev Gh := Nat → Nat → Option Value
def Has (w : World) (C : Gh) : Prop := ∀ b o v, C b o = some v → w.cell? ⟨b, o, none⟩ = some v
def Gle (C C' : Gh) : Prop := ∀ b o v, C b o = some v → C' b o = some v
theorem Gle.refl (C : Gh) : Gle C C := fun _ _ _ h => h
theorem Gle.trans {C C' C'' : Gh} (h : Gle C C') (k : Gle C' C'') : Gle C C'' := fun b o v e => k b o v (h b o v e)
/-- From (w, C) to (w', C'): below block number B nothing has turned and nothing is committed anew; what was committed stays. -/
structure Ext (B : Nat) (w : World) (C : Gh) (w' : World) (C' : Gh) : Prop where
  below : Below B w w'
  has : Has w' C'
  le : Gle C C'
  old : ∀ b o, b < B → C' b o = C b o
theorem Ext.refl {B : Nat} {w : World} {C : Gh} (h : Has w C) : Ext B w C w C := ⟨Below.refl _ _, h, Gle.refl _, fun _ _ _ => rfl⟩
theorem Ext.trans {B : Nat} {w w1 w2 : World} {C C1 C2 : Gh} (h : Ext B w C w1 C1) (k : Ext B w1 C1 w2 C2) : Ext B w C w2 C2 :=
  ⟨h.below.trans k.below, k.has, h.le.trans k.le, fun b o hb => (k.old b o hb).trans (h.old b o hb)⟩
theorem Ext.mono {B B' : Nat} {w w1 : World} {C C1 : Gh} (h : Ext B w C w1 C1) (hB : B' ≤ B) : Ext B' w C w1 C1 :=
  ⟨h.below.mono hB, h.has, h.le, fun b o hb => h.old b o (Nat.lt_of_lt_of_le hb hB)⟩
theorem Ext.step {w0 w w1 : World} {C0 C C1 : Gh} (h : Ext w0.heap.size w0 C0 w C) (e : Ext w.heap.size w C w1 C1) : Ext w0.heap.size w0 C0 w1 C1 := h.trans (e.mono h.below.size)
theorem Ext.size {B : Nat} {w w1 : World} {C C1 : Gh} (h : Ext B w C w1 C1) : w.heap.size ≤ w1.heap.size := h.below.size
/-- What a callee leaves that writes nothing that was there. -/
theorem Ext.call {B : Nat} {w w1 w2 : World} {C C1 C2 : Gh} (h : Ext B w C w1 C1) (k : Ext w1.heap.size w1 C1 w2 C2) (hB : B ≤ w1.heap.size) : Ext B w C w2 C2 := h.trans (k.mono hB)
theorem Has.drew {w : World} {C : Gh} (h : Has w C) : Has w.drew C := h
theorem Ext.drew {B : Nat} {w w1 : World} {C C1 : Gh} (h : Ext B w C w1 C1) : Ext B w C w1.drew C1 := ⟨h.below.drew, h.has, h.le, h.old⟩
theorem Has.of_below {B : Nat} {w w' : World} {C : Gh} (h : Has w C) (hb : Below B w w') (hC : ∀ b o v, C b o = some v → b < B) : Has w' C := fun b o v e => by
  rw [hb.cell (p := ⟨b, o, none⟩) (hC b o v e)]
  exact h b o v e
theorem Has.lt {w : World} {C : Gh} (h : Has w C) {b o : Nat} {v : Value} (e : C b o = some v) : b < w.heap.size := World.block_lt_of_cell? w _ (h b o v e)
theorem Has.none {w : World} {C : Gh} (h : Has w C) {b : Nat} (o : Nat) (hb : w.heap.size ≤ b) : C b o = none := by
  cases e : C b o with
  | none => rfl
  | some v => exact absurd (h.lt e) (by omega)
theorem Has.below {w w' : World} {C : Gh} (h : Has w C) (hb : Below w.heap.size w w') : Has w' C := h.of_below hb fun _ _ _ e => h.lt e
theorem Ext.same {B : Nat} {w w1 w2 : World} {C C1 : Gh} (h : Ext B w C w1 C1) (hb : Below w1.heap.size w1 w2) (hB : B ≤ w1.heap.size) : Ext B w C w2 C1 :=
  ⟨h.below.trans (hb.mono hB), h.has.below hb, h.le, h.old⟩
theorem Ext.alloc {B : Nat} {w w1 : World} {C C1 : Gh} (h : Ext B w C w1 C1) (hB : B ≤ w1.heap.size) (o : Obj) : Ext B w C (w1.alloc o) C1 :=
  h.same ((Below.refl _ _).alloc (Nat.le_refl _) o) hB

/-! ### kinds of data -/
def Seg (C : Gh) (g o : Nat) (cs : List Value) : Prop := ∀ i v, cs[i]? = some v → C g (o + i) = some v
theorem Seg.mono {C C' : Gh} {g o : Nat} {cs : List Value} (h : Seg C g o cs) (k : Gle C C') : Seg C' g o cs := fun i v e => k _ _ _ (h i v e)
structure Kd (α : Type) where
  sz : Nat
  R : Gh → α → List Value → Prop
  len : ∀ C x cs, R C x cs → cs.length = sz
  one : ∀ C x cs, R C x cs → ∀ v ∈ cs, v.oneCell' = true
  mono : ∀ C C' x cs, Gle C C' → R C x cs → R C' x cs
/-- Cells of a row: those from place k on behind the slice's address. -/
def CellsG (C : Gh) (A : Option Addr) (k : Nat) (cs : List Value) : Prop := ∃ g o, A = some ⟨g, o, none⟩ ∧ Seg C g (o + k) cs
theorem CellsG.mono {C C' : Gh} {A : Option Addr} {k : Nat} {cs : List Value} (h : CellsG C A k cs) (hle : Gle C C') : CellsG C' A k cs :=
  let ⟨g, o, hA, hs⟩ := h; ⟨g, o, hA, hs.mono hle⟩
def big : Nat := 140737488355328
structure Sl {α : Type} (K : Kd α) (C : Gh) (A : Option Addr) (c : Nat) (xs : List α) : Prop where
  le : xs.length ≤ c
  bd : xs.length ≤ 140737488355328
  at_ : ∀ j x, xs[j]? = some x → ∃ cs, K.R C x cs ∧ CellsG C A (j * K.sz) cs
theorem Sl.mono {α : Type} {K : Kd α} {C C' : Gh} {A : Option Addr} {c : Nat} {xs : List α} (h : Sl K C A c xs) (hle : Gle C C') : Sl K C' A c xs :=
  ⟨h.le, h.bd, fun j x e => let ⟨cs, h1, h2⟩ := h.at_ j x e; ⟨cs, K.mono _ _ _ _ hle h1, h2.mono hle⟩⟩
theorem Sl.nil {α : Type} (K : Kd α) (C : Gh) (A : Option Addr) (c : Nat) : Sl K C A c [] := ⟨Nat.zero_le _, by simp, fun j x e => by simp at e⟩
theorem Sl.isSome {α : Type} {K : Kd α} {C : Gh} {A : Option Addr} {c : Nat} {xs : List α} (h : Sl K C A c xs) (hn : 0 < xs.length) : A.isSome = true := by
  obtain ⟨cs, _, g, o, hA, _⟩ := h.at_ 0 xs[0] (by simp [hn])
  simp [hA]
def kInt (k : IntKind) : Kd Int where
  sz := 1
  R _ x cs := cs = [.int k x]
  len _ _ cs h := by rw [h]; rfl
  one _ _ cs h := by rw [h]; simp [Value.oneCell']
  mono _ _ _ _ _ h := h
def kBool : Kd Bool where
  sz := 1
  R _ x cs := cs = [.bool x]
  len _ _ cs h := by rw [h]; rfl
  one _ _ cs h := by rw [h]; simp [Value.oneCell']
  mono _ _ _ _ _ h := h
def kStr : Kd ByteArray where
  sz := 1
  R _ x cs := cs = [.string x]
  len _ _ cs h := by rw [h]; rfl
  one _ _ cs h := by rw [h]; simp [Value.oneCell']
  mono _ _ _ _ _ h := h
def kSl {α : Type} (K : Kd α) : Kd (List α) where
  sz := 1
  R C xs cs := ∃ A c, cs = [.slice A xs.length c] ∧ Sl K C A c xs
  len _ _ cs h := by obtain ⟨A, c, h, _⟩ := h; rw [h]; rfl
  one _ _ cs h := by obtain ⟨A, c, h, _⟩ := h; rw [h]; simp [Value.oneCell']
  mono _ _ _ _ hle h := by obtain ⟨A, c, h1, h2⟩ := h; exact ⟨A, c, h1, h2.mono hle⟩

/-! ### addresses -/
def ptrAt (A : Option Addr) (k : Nat) : Value := match A with | some a => .pointer (some (a.add k)) | none => .pointer none
theorem add_add' (a : Addr) (i j : Nat) : (a.add i).add j = a.add (i + j) := by
  unfold Addr.add
  by_cases hi : i = 0 <;> by_cases hj : j = 0 <;> simp [hi, hj, Nat.add_assoc]
theorem add_lit (g o k : Nat) : (⟨g, o, none⟩ : Addr).add k = ⟨g, o + k, none⟩ := by
  unfold Addr.add
  split <;> simp_all
theorem CellsG.ptr {C : Gh} {A : Option Addr} {k : Nat} {cs : List Value} (h : CellsG C A k cs) : ∃ g o, A = some ⟨g, o, none⟩ ∧ ptrAt A k = .pointer (some ⟨g, o + k, none⟩) ∧ Seg C g (o + k) cs := by
  obtain ⟨g, o, hA, hs⟩ := h
  exact ⟨g, o, hA, by rw [hA]; simp [ptrAt, add_lit], hs⟩

theorem strEq (s s' : ByteArray) : (s.toList == s'.toList) = decide (s = s') := by
  rw [ByteArray.toList_eq, ByteArray.toList_eq, Bool.eq_iff_iff]
  simp only [beq_iff_eq, decide_eq_true_eq]
  constructor
  · intro h
    cases s; cases s'
    simp only [ByteArray.mk.injEq]
    exact Array.ext' h
  · intro h; rw [h]
/-! ### runs of single operations -/
section
variable {P : Program} {ρ : Operand → Value} {d : Option Tmp} {ty : TypeId} {pos : String} {af : Array Edge} {gd : Option (Nat × Bool)} {w : World}
theorem r_move {x : Operand} : (execOp ρ ⟨d, .move x, ty, pos, af, gd⟩).run P w = .ok (.value (ρ x)) w := rfl
theorem r_assign {x : Operand} : (execOp ρ ⟨d, .assign x, ty, pos, af, gd⟩).run P w = .ok (.value (ρ x)) w := rfl
theorem r_pick {c a b : Operand} {t : Bool} (hc : ρ c = .bool t) : (execOp ρ ⟨d, .pick c a b, ty, pos, af, gd⟩).run P w = .ok (.value (if t then ρ a else ρ b)) w := by
  simp [execOp, hc, asBool]
theorem r_nilCheck {x : Operand} {a : Addr} (hx : ρ x = .pointer (some a)) : (execOp ρ ⟨d, .nilCheck x, ty, pos, af, gd⟩).run P w = .ok (.value (ρ x)) w := by
  simp [execOp, hx]
theorem r_nilCheckF {x : Operand} {f : FuncId} {a b : Array Value} (hx : ρ x = .func (.func f) a b) : (execOp ρ ⟨d, .nilCheck x, ty, pos, af, gd⟩).run P w = .ok (.value (ρ x)) w := by
  simp [execOp, hx]
theorem r_extract {x : Operand} {i : Nat} {vs : Array Value} {v : Value} (hx : ρ x = .tuple vs) (hv : vs[i]? = some v) : (execOp ρ ⟨d, .extract x i, ty, pos, af, gd⟩).run P w = .ok (.value v) w := by
  simp [execOp, hx, Instr.extract, hv]
theorem r_not {x : Operand} {xt : TypeId} {b : Bool} (hx : ρ x = .bool b) : (execOp ρ ⟨d, .unOp .not xt x, ty, pos, af, gd⟩).run P w = .ok (.value (.bool (!b))) w := by
  simp [execOp, hx, Op.unary]
/-- An int that fits. -/
theorem wr64 {n : Int} (h1 : -9223372036854775808 ≤ n) (h2 : n ≤ 9223372036854775807) : IntKind.i64.wrap n = n := IntWalk.i64_in n ⟨h1, h2⟩
section
variable {x y : Operand} {t t' : TypeId} {k : IntKind} {a b : Int}
theorem r_add (hx : ρ x = .int k a) (hy : ρ y = .int k b) : (execOp ρ ⟨d, .binOp .add t x y t', ty, pos, af, gd⟩).run P w = .ok (.value (.int k (k.wrap (a + b)))) w := by
  simp [execOp, hx, hy, eqGuard, binOp, Op.intArith]
theorem r_sub (hx : ρ x = .int k a) (hy : ρ y = .int k b) : (execOp ρ ⟨d, .binOp .sub t x y t', ty, pos, af, gd⟩).run P w = .ok (.value (.int k (k.wrap (a - b)))) w := by
  simp [execOp, hx, hy, eqGuard, binOp, Op.intArith]
theorem r_mul (hx : ρ x = .int k a) (hy : ρ y = .int k b) : (execOp ρ ⟨d, .binOp .mul t x y t', ty, pos, af, gd⟩).run P w = .ok (.value (.int k (k.wrap (a * b)))) w := by
  simp [execOp, hx, hy, eqGuard, binOp, Op.intArith]
theorem r_addI (hx : ρ x = .int .i64 a) (hy : ρ y = .int .i64 b) (h1 : -9223372036854775808 ≤ a + b) (h2 : a + b ≤ 9223372036854775807) : (execOp ρ ⟨d, .binOp .add t x y t', ty, pos, af, gd⟩).run P w = .ok (.value (.int .i64 (a + b))) w := by
  rw [r_add hx hy, wr64 h1 h2]
theorem r_subI (hx : ρ x = .int .i64 a) (hy : ρ y = .int .i64 b) (h1 : -9223372036854775808 ≤ a - b) (h2 : a - b ≤ 9223372036854775807) : (execOp ρ ⟨d, .binOp .sub t x y t', ty, pos, af, gd⟩).run P w = .ok (.value (.int .i64 (a - b))) w := by
  rw [r_sub hx hy, wr64 h1 h2]
theorem r_mulI (hx : ρ x = .int .i64 a) (hy : ρ y = .int .i64 b) (h1 : -9223372036854775808 ≤ a * b) (h2 : a * b ≤ 9223372036854775807) : (execOp ρ ⟨d, .binOp .mul t x y t', ty, pos, af, gd⟩).run P w = .ok (.value (.int .i64 (a * b))) w := by
  rw [r_mul hx hy, wr64 h1 h2]
theorem r_eql (hx : ρ x = .int k a) (hy : ρ y = .int k b) : (execOp ρ ⟨d, .binOp .eql t x y t', ty, pos, af, gd⟩).run P w = .ok (.value (.bool (decide (a = b)))) w := by
  have : (a == b) = decide (a = b) := rfl
  simp [execOp, hx, hy, eqGuard, binOp, Op.intCmp, this]
theorem r_neq (hx : ρ x = .int k a) (hy : ρ y = .int k b) : (execOp ρ ⟨d, .binOp .neq t x y t', ty, pos, af, gd⟩).run P w = .ok (.value (.bool (decide (a ≠ b)))) w := by
  have : (a != b) = decide (a ≠ b) := by simp [bne]; rfl
  simp [execOp, hx, hy, eqGuard, binOp, Op.intCmp, this]
theorem r_lss (hx : ρ x = .int k a) (hy : ρ y = .int k b) : (execOp ρ ⟨d, .binOp .lss t x y t', ty, pos, af, gd⟩).run P w = .ok (.value (.bool (decide (a < b)))) w := by
  simp [execOp, hx, hy, eqGuard, binOp, Op.intCmp]
theorem r_leq (hx : ρ x = .int k a) (hy : ρ y = .int k b) : (execOp ρ ⟨d, .binOp .leq t x y t', ty, pos, af, gd⟩).run P w = .ok (.value (.bool (decide (a ≤ b)))) w := by
  simp [execOp, hx, hy, eqGuard, binOp, Op.intCmp]
theorem r_gtr (hx : ρ x = .int k a) (hy : ρ y = .int k b) : (execOp ρ ⟨d, .binOp .gtr t x y t', ty, pos, af, gd⟩).run P w = .ok (.value (.bool (decide (b < a)))) w := by
  simp [execOp, hx, hy, eqGuard, binOp, Op.intCmp]
theorem r_geq (hx : ρ x = .int k a) (hy : ρ y = .int k b) : (execOp ρ ⟨d, .binOp .geq t x y t', ty, pos, af, gd⟩).run P w = .ok (.value (.bool (decide (b ≤ a)))) w := by
  simp [execOp, hx, hy, eqGuard, binOp, Op.intCmp]
theorem r_eqlStr {s s' : ByteArray} (hx : ρ x = .string s) (hy : ρ y = .string s') : (execOp ρ ⟨d, .binOp .eql t x y t', ty, pos, af, gd⟩).run P w = .ok (.value (.bool (decide (s = s')))) w := by
  simp [execOp, hx, hy, eqGuard, binOp, Op.stringOp, strEq]
theorem r_neqStr {s s' : ByteArray} (hx : ρ x = .string s) (hy : ρ y = .string s') : (execOp ρ ⟨d, .binOp .neq t x y t', ty, pos, af, gd⟩).run P w = .ok (.value (.bool (!decide (s = s')))) w := by
  simp [execOp, hx, hy, eqGuard, binOp, Op.stringOp, strEq]
end
theorem r_lenSl {x : Operand} {xt e : TypeId} {A : Option Addr} {n c : Nat} (hu : P.underlying xt = some (.slice e)) (hx : ρ x = .slice A n c) :
    (execOp ρ ⟨d, .call { callee := .builtin .len, args := #[x], argTypes := #[xt] }, ty, pos, af, gd⟩).run P w = .ok (.value (.int .i64 (n : Int))) w := by
  simp [execOp, resolve, invoke, builtin, Builtin.len_, underlying, hu, hx, goInt]
theorem r_lenStr {x : Operand} {xt : TypeId} {s : ByteArray} (hu : P.underlying xt = some .string) (hx : ρ x = .string s) :
    (execOp ρ ⟨d, .call { callee := .builtin .len, args := #[x], argTypes := #[xt] }, ty, pos, af, gd⟩).run P w = .ok (.value (.int .i64 (s.size : Int))) w := by
  simp [execOp, resolve, invoke, builtin, Builtin.len_, underlying, hu, hx, goInt]
theorem r_min2 {x y : Operand} {ts : Array TypeId} {k : IntKind} {a b : Int} (hx : ρ x = .int k a) (hy : ρ y = .int k b) :
    (execOp ρ ⟨d, .call { callee := .builtin .min, args := #[x, y], argTypes := ts }, ty, pos, af, gd⟩).run P w = .ok (.value (.int k (min a b))) w := by
  have : (if b < a then b else a) = min a b := by omega
  simp [execOp, resolve, invoke, builtin, Builtin.min_, Builtin.min2, hx, hy, this]
theorem r_max2 {x y : Operand} {ts : Array TypeId} {k : IntKind} {a b : Int} (hx : ρ x = .int k a) (hy : ρ y = .int k b) :
    (execOp ρ ⟨d, .call { callee := .builtin .max, args := #[x, y], argTypes := ts }, ty, pos, af, gd⟩).run P w = .ok (.value (.int k (max a b))) w := by
  have : (if b > a then b else a) = max a b := by omega
  simp [execOp, resolve, invoke, builtin, Builtin.max_, Builtin.max2, hx, hy, this]
theorem r_indexAddr {x ix : Operand} {t e : TypeId} {k : IntKind} {A : Option Addr} {n c sz : Nat} {i : Int} (hu : P.underlying t = some (.slice e)) (hs : ∀ w, (sizeOf e).run P w = .ok sz w)
    (hx : ρ x = .slice A n c) (hi : ρ ix = .int k i) (hA : A.isSome = true) (h0 : 0 ≤ i) (h1 : i < n) :
    (execOp ρ ⟨d, .indexAddr t x ix, ty, pos, af, gd⟩).run P w = .ok (.value (ptrAt A (i.toNat * sz))) w := by
  obtain ⟨a, rfl⟩ := Option.isSome_iff_exists.1 hA
  simp [execOp, Instr.indexAt, asIntOf, underlying, hu, hx, hi, h0, h1, hs, ptrAt]
theorem r_fieldAddr {x : Operand} {t : TypeId} {f sz : Nat} {a : Addr} {fs : Array Field} {fl : Field} (hu : P.underlying t = some (.struct fs)) (hf : fs[f]? = some fl) (hs : ∀ w, (sizeOf fl.type).run P w = .ok sz w) (hz' : Nat.blt 0 sz = true)
    (hx : ρ x = .pointer (some a)) : (execOp ρ ⟨d, .fieldAddr t x f, ty, pos, af, gd⟩).run P w = .ok (.value (.pointer (some (a.add fl.offset)))) w := by
  have hz := lt_of_blt hz'
  have : ¬ sz = 0 := by omega
  simp [execOp, Instr.fieldAt, underlying, hu, hf, hx, Instr.sureAddr, fieldPlace, hs, this]
theorem r_fieldAddrS {x : Operand} {t : TypeId} {f sz g o off o' : Nat} {fs : Array Field} {fl : Field} (hu : P.underlying t = some (.struct fs)) (hf : fs[f]? = some fl) (hs : ∀ w, (sizeOf fl.type).run P w = .ok sz w) (hz' : Nat.blt 0 sz = true) (hoff : fl.offset = off) (ho : o + off = o')
    (hx : ρ x = .pointer (some ⟨g, o, none⟩)) : (execOp ρ ⟨d, .fieldAddr t x f, ty, pos, af, gd⟩).run P w = .ok (.value (.pointer (some ⟨g, o', none⟩))) w := by
  subst hoff ho
  rw [r_fieldAddr hu hf hs hz' hx, add_lit]
theorem r_fieldAddrAt {x : Operand} {t : TypeId} {f sz k : Nat} {A : Option Addr} {fs : Array Field} {fl : Field} (hu : P.underlying t = some (.struct fs)) (hf : fs[f]? = some fl) (hs : ∀ w, (sizeOf fl.type).run P w = .ok sz w) (hz' : Nat.blt 0 sz = true) {off k' : Nat} (hoff : fl.offset = off) (hk : k + off = k')
    (hA : A.isSome = true) (hx : ρ x = ptrAt A k) : (execOp ρ ⟨d, .fieldAddr t x f, ty, pos, af, gd⟩).run P w = .ok (.value (ptrAt A k')) w := by
  subst hoff hk
  obtain ⟨a, rfl⟩ := Option.isSome_iff_exists.1 hA
  have := r_fieldAddr (P := P) (d := d) (ty := ty) (pos := pos) (af := af) (gd := gd) (w := w) hu hf hs hz' hx
  rw [this, add_add']
  rfl
theorem r_load1 {x : Operand} {t : TypeId} {a : Addr} {v : Value} (ha : ∀ w, (isAgg t).run P w = .ok false w) (hx : ρ x = .pointer (some a)) (hc : w.cell? a = some v) :
    (execOp ρ ⟨d, .load t x, ty, pos, af, gd⟩).run P w = .ok (.value v) w := by
  simp [execOp, Instr.loadAt, Instr.sureAddr, loadVar, ha, hx, hc]
theorem r_loadN {x : Operand} {t : TypeId} {a : Addr} {cs : List Value} (ha : ∀ w, (isAgg t).run P w = .ok true w) (hs : ∀ w, (sizeOf t).run P w = .ok cs.length w) (hx : ρ x = .pointer (some a))
    (hc : ∀ j v, cs[j]? = some v → w.cell? (a.add j) = some v) : (execOp ρ ⟨d, .load t x, ty, pos, af, gd⟩).run P w = .ok (.value (.agg cs.toArray)) w := by
  simp [execOp, Instr.loadAt, Instr.sureAddr, loadVar, ha, hs, hx, run_loadCells_list w a cs hc]
/-- Loads of committed cells. -/
theorem r_loadG1 {x : Operand} {t : TypeId} {C : Gh} {A : Option Addr} {k i : Nat} {cs : List Value} {v : Value} (ha : ∀ w, (isAgg t).run P w = .ok false w) (hC : CellsG C A k cs) (hi : cs[i]? = some v)
    (hx : ρ x = ptrAt A (k + i)) (hH : Has w C) : (execOp ρ ⟨d, .load t x, ty, pos, af, gd⟩).run P w = .ok (.value v) w := by
  obtain ⟨g, o, rfl, hs⟩ := hC
  refine r_load1 ha (a := ⟨g, o + (k + i), none⟩) (by rw [hx]; simp [ptrAt, add_lit]) (hH _ _ _ ?_)
  have := hs i v hi
  rwa [Nat.add_assoc] at this
theorem r_loadGN {x : Operand} {t : TypeId} {C : Gh} {A : Option Addr} {k : Nat} {cs : List Value} (ha : ∀ w, (isAgg t).run P w = .ok true w) (hs : ∀ w, (sizeOf t).run P w = .ok cs.length w) (hC : CellsG C A k cs)
    (hx : ρ x = ptrAt A k) (hH : Has w C) : (execOp ρ ⟨d, .load t x, ty, pos, af, gd⟩).run P w = .ok (.value (.agg cs.toArray)) w := by
  obtain ⟨g, o, rfl, hseg⟩ := hC
  refine r_loadN ha hs (a := ⟨g, o + k, none⟩) (by rw [hx]; simp [ptrAt, add_lit]) fun j v hj => ?_
  rw [add_lit]
  exact hH _ _ _ (hseg j v hj)
theorem r_field1 {x : Operand} {t : TypeId} {f : Nat} {fs : Array Field} {fl : Field} {cs : Array Value} {v : Value} (hu : P.underlying t = some (.struct fs)) (hf : fs[f]? = some fl) (ha : ∀ w, (isAgg fl.type).run P w = .ok false w) (hx : ρ x = .agg cs) (hv : cs[fl.offset]? = some v) :
    (execOp ρ ⟨d, .field t x f, ty, pos, af, gd⟩).run P w = .ok (.value v) w := by
  simp [execOp, Instr.field, underlying, hu, hf, hx, asAgg, part, ha, hv]
theorem r_index1 {x ix : Operand} {t e : TypeId} {k : IntKind} {i : Int} {n : Nat} {cs : Array Value} {v : Value} (hu : P.underlying t = some (.array n e)) (hs : ∀ w, (sizeOf e).run P w = .ok 1 w) (ha : ∀ w, (isAgg e).run P w = .ok false w) (hx : ρ x = .agg cs) (hi : ρ ix = .int k i) (h0 : 0 ≤ i) (h1 : i < n) (hv : cs[i.toNat]? = some v) :
    (execOp ρ ⟨d, .index t x ix, ty, pos, af, gd⟩).run P w = .ok (.value v) w := by
  simp [execOp, Instr.index, asIntOf, underlying, hu, hx, hi, h0, h1, hs, part, ha, hv]
theorem bt_lt (s : ByteArray) (i : Nat) (h : i < s.size) : s[i]? = some s[i] := by simp [h]
theorem r_indexStr {x ix : Operand} {t : TypeId} {k : IntKind} {i : Int} {s : ByteArray} {b : UInt8} (hu : P.underlying t = some .string) (hx : ρ x = .string s) (hi : ρ ix = .int k i) (h0 : 0 ≤ i) (hb : s[i.toNat]? = some b) :
    (execOp ρ ⟨d, .index t x ix, ty, pos, af, gd⟩).run P w = .ok (.value (.int .u8 (b.toNat : Int))) w := by
  simp [execOp, Instr.index, asIntOf, underlying, hu, hx, hi, h0, hb]
theorem r_build {t : TypeId} {parts : Array (Nat × Operand)} {cells : Array Value} (h : P.built t (parts.map fun (i, x) => (i, ρ x)).toList = some cells) :
    (execOp ρ ⟨d, .build t parts, ty, pos, af, gd⟩).run P w = .ok (.value (.agg cells)) w := by
  simp [execOp, run_build w t _ cells h]
theorem r_call {f : FuncId} {as : Array Operand} {ts : Array TypeId} (hcall : ∀ (args : Array Value) (w : World), (callFunc f args).run P w = .ok (.enter f args) w) (hf : ρ (.func f) = .func (.func f) #[] #[]) :
    (execOp ρ ⟨d, .call { callee := .value (.func f), args := as, argTypes := ts }, ty, pos, af, gd⟩).run P w = .ok (.enter f (as.map ρ)) w := by
  simp [execOp, resolve, hf, Deferred.ofValue, invoke, hcall]
end
end Go.Proofs.Ytlofomkhiefbmaa
