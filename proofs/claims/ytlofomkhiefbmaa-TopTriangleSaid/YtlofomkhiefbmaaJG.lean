/- The kinds of the program's types; operations over them. -/
import Derived.Test.YtlofomkhiefbmaaJF
import Derived.Test.YtlofomkhiefbmaaPD
import Derived.Laws.StructEq
set_option linter.unusedVariables false
set_option linter.unusedSimpArgs false
namespace Go.Proofs.Ytlofomkhiefbmaa
open Go.RowKit
theorem beqB (a b : ByteArray) : (a == b) = decide (a = b) := by
  rw [Bool.eq_iff_iff, decide_eq_true_eq]
  cases a with | mk a => cases b with | mk b =>
  show (a == b) = true ↔ _
  simp
theorem Sl.nil_of {α : Type} {K : Kd α} {C : Gh} {c : Nat} {xs : List α} (h : Sl K C none c xs) : xs = [] := by
  rcases Nat.eq_zero_or_pos xs.length with h0 | h0
  · exact List.eq_nil_of_length_eq_zero h0
  · have := h.isSome h0; simp at this
def kLine : Kd Line where
  sz := 2
  R _ x cs := cs = [.string x.text, .bool x.bare]
  len _ _ cs h := by rw [h]; rfl
  one _ _ cs h := by rw [h]; simp [Value.oneCell']
  mono _ _ _ _ _ h := h
def kPair : Kd (Int × Int) where
  sz := 2
  R _ x cs := cs = [.int .i64 x.1, .int .i64 x.2]
  len _ _ cs h := by rw [h]; rfl
  one _ _ cs h := by rw [h]; simp [Value.oneCell']
  mono _ _ _ _ _ h := h
def kEdit : Kd Edit where
  sz := 2
  R C x cs := ∃ A c, cs = [.int .i64 x.do_, .slice A x.lines.length c] ∧ Sl kLine C A c x.lines
  len _ _ cs h := by obtain ⟨A, c, h, _⟩ := h; rw [h]; rfl
  one _ _ cs h := by obtain ⟨A, c, h, _⟩ := h; rw [h]; simp [Value.oneCell']
  mono _ _ _ _ hle h := by obtain ⟨A, c, h, h2⟩ := h; exact ⟨A, c, h, h2.mono hle⟩
def kHunk : Kd Hunk where
  sz := 5
  R C x cs := ∃ A c, cs = [.int .i64 x.oldAt, .int .i64 x.old, .int .i64 x.newAt, .int .i64 x.new_, .slice A x.edits.length c] ∧ Sl kEdit C A c x.edits
  len _ _ cs h := by obtain ⟨A, c, h, _⟩ := h; rw [h]; rfl
  one _ _ cs h := by obtain ⟨A, c, h, _⟩ := h; rw [h]; simp [Value.oneCell']
  mono _ _ _ _ hle h := by obtain ⟨A, c, h, h2⟩ := h; exact ⟨A, c, h, h2.mono hle⟩
theorem kSl_mk {α : Type} {K : Kd α} {C : Gh} {A : Option Addr} {c : Nat} {xs : List α} (h : Sl K C A c xs) : (kSl K).R C xs [.slice A xs.length c] := ⟨A, c, rfl, h⟩
theorem kLine_mk {C : Gh} {x : Line} : kLine.R C x [.string x.text, .bool x.bare] := rfl
theorem kPair_mk {C : Gh} {x : Int × Int} : kPair.R C x [.int .i64 x.1, .int .i64 x.2] := rfl
theorem kEdit_mk {C : Gh} {x : Edit} {A : Option Addr} {c : Nat} (h : Sl kLine C A c x.lines) : kEdit.R C x [.int .i64 x.do_, .slice A x.lines.length c] := ⟨A, c, rfl, h⟩
theorem kHunk_mk {C : Gh} {x : Hunk} {A : Option Addr} {c : Nat} (h : Sl kEdit C A c x.edits) : kHunk.R C x [.int .i64 x.oldAt, .int .i64 x.old, .int .i64 x.newAt, .int .i64 x.new_, .slice A x.edits.length c] := ⟨A, c, rfl, h⟩
section
variable {P : Program} {ρ : Operand → Value} {d : Option Tmp} {ty : TypeId} {pos : String} {af : Array Edge} {gd : Option (Nat × Bool)} {w : World} {x y : Operand} {t t' : TypeId}
theorem equal_at {t : TypeId} {x y : Value} : Op.equal t x y = Op.equalIn (9999 + 1) t x y := rfl
theorem equalIn_nil {d : Nat} {e : TypeId} {A : Option Addr} {n c : Nat} (hu : ∀ w, (underlying t).run P w = .ok (.slice e) w) : (Op.equalIn (d + 1) t (.slice A n c) (.slice none 0 0)).run P w = .ok A.isNone w := by
  cases A <;> simp [Op.equalIn, hu]
theorem r_eqlNil {e : TypeId} {A : Option Addr} {n c : Nat} (hu : ∀ w, (underlying t).run P w = .ok (.slice e) w) (hx : ρ x = .slice A n c) (hy : ρ y = .slice none 0 0) :
    (execOp ρ ⟨d, .binOp .eql t x y t', ty, pos, af, gd⟩).run P w = .ok (.value (.bool A.isNone)) w := by
  simp only [execOp, hx, hy, eqGuard, binOp, equal_at, Sem.run_bind, equalIn_nil hu]
  simp
theorem r_neqNil {e : TypeId} {A : Option Addr} {n c : Nat} (hu : ∀ w, (underlying t).run P w = .ok (.slice e) w) (hx : ρ x = .slice A n c) (hy : ρ y = .slice none 0 0) :
    (execOp ρ ⟨d, .binOp .neq t x y t', ty, pos, af, gd⟩).run P w = .ok (.value (.bool (!A.isNone))) w := by
  simp only [execOp, hx, hy, eqGuard, binOp, equal_at, Sem.run_bind, equalIn_nil hu]
  simp
/-- '==' of lines. -/
theorem r_eqAgg {a b : Array Value} {r : Bool} (hm : P.eqGuardType P.depth t = false) (he : ∀ w, (Op.equal t (.agg a) (.agg b)).run P w = .ok r w) (hx : ρ x = .agg a) (hy : ρ y = .agg b) :
    (execOp ρ ⟨d, .binOp .eql t x y t', ty, pos, af, gd⟩).run P w = .ok (.value (.bool r)) w := by
  simp [execOp, hx, hy, run_eqGuard_agg (P := P) _ _ t x y a b hm, binOp, he]
theorem r_neqAgg {a b : Array Value} {r : Bool} (hm : P.eqGuardType P.depth t = false) (he : ∀ w, (Op.equal t (.agg a) (.agg b)).run P w = .ok r w) (hx : ρ x = .agg a) (hy : ρ y = .agg b) :
    (execOp ρ ⟨d, .binOp .neq t x y t', ty, pos, af, gd⟩).run P w = .ok (.value (.bool (!r))) w := by
  simp [execOp, hx, hy, run_eqGuard_agg (P := P) _ _ t x y a b hm, binOp, he]
end
section
variable {P : Program} {d : Nat} {xs ys : Array Value} {f : Field} {fs : List Field} {a b : Value} {r s : Bool} {w : World}
theorem eqf_last (hn : (f.name == "_") = false) (ha : (part f.type xs f.offset).run P w = .ok a w) (hb : (part f.type ys f.offset).run P w = .ok b w) (he : (Op.equalIn d f.type a b).run P w = .ok r w) : (Op.eqFields d xs ys [f]).run P w = .ok r w := by
  have hn' : f.name ≠ "_" := by simpa using hn
  simp only [Op.eqFields, if_pos hn', Sem.run_bind, ha, hb, he, Result.andThen_ok]
  cases r <;> simp
theorem eqf_cons (hn : (f.name == "_") = false) (ha : (part f.type xs f.offset).run P w = .ok a w) (hb : (part f.type ys f.offset).run P w = .ok b w) (he : (Op.equalIn d f.type a b).run P w = .ok r w) (hr : (Op.eqFields d xs ys fs).run P w = .ok s w) : (Op.eqFields d xs ys (f :: fs)).run P w = .ok (r && s) w := by
  have hn' : f.name ≠ "_" := by simpa using hn
  rw [Op.eqFields]
  simp only [if_pos hn', Sem.run_bind, ha, hb, he, Result.andThen_ok]
  cases r
  · simp
  · simpa using hr
theorem eqA_of {t : TypeId} {fs : Array Field} (hu : P.underlying t = some (.struct fs)) (hp : P.stoodInHeld t = false) (h : (Op.eqFields d xs ys fs.toList).run P w = .ok r w) : (Op.equalIn (d + 1) t (.agg xs) (.agg ys)).run P w = .ok r w := by
  have hf : P.fieldsOf t = fs := by simp [Program.fieldsOf, hu]
  rw [run_equalIn_struct (P := P) w d t xs ys (by rw [hf]; exact hu) hp, hf]
  exact h
theorem eq_int {t : TypeId} {k k' : IntKind} {a b : Int} (hu : ∀ w, (underlying t).run P w = .ok (.int k') w) : (Op.equalIn (d + 1) t (.int k a) (.int k b)).run P w = .ok (decide (a = b)) w := by
  have : (a == b) = decide (a = b) := rfl
  simp [Op.equalIn, hu, this]
theorem eq_bool {t : TypeId} {a b : Bool} (hu : ∀ w, (underlying t).run P w = .ok .bool w) : (Op.equalIn (d + 1) t (.bool a) (.bool b)).run P w = .ok (decide (a = b)) w := by
  have : (a == b) = decide (a = b) := by cases a <;> cases b <;> rfl
  simp [Op.equalIn, hu, this]
theorem eq_str {t : TypeId} {a b : ByteArray} (hu : ∀ w, (underlying t).run P w = .ok .string w) : (Op.equalIn (d + 1) t (.string a) (.string b)).run P w = .ok (decide (a = b)) w := by
  simp [Op.equalIn, hu, beqB]
theorem part1 {t : TypeId} {cs : Array Value} {o : Nat} {v : Value} (ha : ∀ w, (isAgg t).run P w = .ok false w) (hv : cs[o]? = some v) : (part t cs o).run P w = .ok v w := by
  simp [part, ha, hv]
end
end Go.Proofs.Ytlofomkhiefbmaa
