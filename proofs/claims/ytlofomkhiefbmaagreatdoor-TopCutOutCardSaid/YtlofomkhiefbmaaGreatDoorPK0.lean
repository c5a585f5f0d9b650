/- Part 1 of the proof; what it proves is said in the last part. -/
import Derived.ArgAppend
import Derived.Below
import Derived.ChangeOld
import Derived.Deep.Slices
import Derived.Great.BuildSlice
import Derived.KernelRfl
import Derived.Laws.AppendOwn
import Derived.Laws.BytesString
import Derived.Laws.Cells
import Derived.Laws.CopyRow
import Derived.Laws.Externs
import Derived.Laws.IdiomCopy
import Derived.Laws.IdiomStrings
import Derived.Laws.MakeOwn
import Derived.Laws.Pointers
import Derived.Laws.Shifts
import Derived.Laws.Slices
import Derived.Laws.StructEq
import Derived.Laws.Tables
import Derived.Lib.AppendStr
import Derived.Lib.Builder
import Derived.Lib.TrailingZeros
import Derived.Lib.UnsafeStr
import Derived.MapKept
import Derived.Maps.AppendAt
import Derived.OrdersHeld
import Derived.OrdersIn
import Derived.ProofKit
import Derived.RangeFuncLeaves
import Derived.RangeFuncOwn
import Derived.RangeFuncSeq
import Derived.Scope
import Derived.ShutString
import Derived.SizedLaws
import Derived.Tactics
import Derived.TacticsInMore
import Derived.Test.YtlofomkhiefbmaaGreatDoorRows
import Derived.WalkKit
set_option linter.unusedVariables false
set_option linter.unusedSimpArgs false
set_option maxHeartbeats 4000000
namespace Go.Proofs.YtlofomkhiefbmaaGreatDoor
open Go.RowKit

abbrev Fr := Nat → Value
def upd (T : Fr) (d : Nat) (v : Value) : Fr := fun t => bif Nat.beq t d then v else T t
def ev (T : Fr) : Operand → Value
 | .tmp t => T t
 | .const v => v
 | .global g => .pointer (some ⟨g, 0, none⟩)
 | .func f => .func (.func f) #[] #[]

def Loose (F : Fence) : Prop := F = Fence.wide ∨ ∃ l, F = Fence.wide.inRound l
theorem Loose.fn {F : Fence} (h : Loose F) (f : FuncId) : F.fn f := by
 rcases h with rfl | ⟨l, rfl⟩ <;> trivial
theorem Loose.depth {F : Fence} (h : Loose F) : F.depth.isSome = true → 1 ≤ 0 := by
 rcases h with rfl | ⟨l, rfl⟩ <;> intro h <;> cases h
theorem Loose.calls {F : Fence} (h : Loose F) {P : Program} {f : FuncId} {args : Array Value} {w : World} {R : Ending → World → Prop} (hc : Calls P f args w R) : CallsIn F 0 P f args w R := by
 have hw := (callsIn_wide (n := 0)).2 hc
 rcases h with rfl | ⟨l, rfl⟩
 ·exact hw
 ·exact hw
theorem wide_loose : Loose Fence.wide := .inl rfl

structure Rel (N : Nat) (D : List Deferred) (T : Fr) (a : Act) : Prop where
 size : a.tmps.size = N
 defers : a.defers = D
 get : ∀ t, a.tmps.getD t undef = T t

theorem Rel.eval {N : Nat} {D : List Deferred} {T : Fr} {a : Act} (h : Rel N D T a) : a.eval = ev T := by
 funext x
 cases x with
 | tmp t => exact h.get t
 | const v => rfl
 | global g => rfl
 | func f => rfl

theorem Rel.put {N : Nat} {D : List Deferred} {T : Fr} {a : Act} (h : Rel N D T a) {d : Nat} (hd : d < N) (v : Value) : Rel N D (upd T d v) (a.put (some d) v) := by
 refine ⟨by simp [Act.put, h.size], by simp [Act.put, h.defers], fun t => ?_⟩
 have hs := h.size
 have hg := h.get t
 simp only [Act.put, upd]
 by_cases e : t = d
 ·subst e
  have : Nat.beq t t = true := Nat.beq_refl t
  simp [hs, hd]
 ·have : Nat.beq t d = false := by
   cases hb : Nat.beq t d with
   | false => rfl
   | true => exact absurd (Nat.eq_of_beq_eq_true hb) e
  rw [this, cond_false, ← hg]
  simp only [Array.getD_eq_getD_getElem?]
  rw [Array.getElem?_setIfInBounds_ne (fun h => e h.symm)]

def wrap (N : Nat) (D : List Deferred) (Q : Exit → Fr → World → Prop) : Exit → Act → World → Prop
 | .panic _, _, _ => False
 | .outgrown, _, _ => False
 | e, a, w => ∃ T, Rel N D T a ∧ Q e T w

def FW (D : List Deferred) (P : Program) (N : Nat) (c : Code) (Q : Exit → Fr → World → Prop) (T : Fr) (w : World) : Prop :=
 ∀ F, Loose F → ∀ a, Rel N D T a → c.wpIn F 0 P (wrap N D Q) a w

def thenF (K : Fr → World → Prop) (Q : Exit → Fr → World → Prop) : Exit → Fr → World → Prop
 | .normal, T, w => K T w
 | e, T, w => Q e T w
def inBlockF (id : Nat) (Q : Exit → Fr → World → Prop) : Exit → Fr → World → Prop
 | .exit id', T, w => bif Nat.beq id' id then Q .normal T w else Q (.exit id') T w
 | e, T, w => Q e T w

section
variable {D : List Deferred} {P : Program} {N : Nat} {Q : Exit → Fr → World → Prop} {T : Fr} {w : World}
theorem xAE {K : Fr → World → Prop} (h : Q .ret T w) : thenF K Q .ret T w := h
theorem xAL {id : Nat} (h : Q .normal T w) : inBlockF id Q .normal T w := h
theorem xAG {K : Fr → World → Prop} (h : K T w) : thenF K Q .normal T w := h
theorem xAC {K : Fr → World → Prop} {i : Nat} (h : Q (.exit i) T w) : thenF K Q (.exit i) T w := h
theorem xAM {id : Nat} (h : Q .normal T w) : inBlockF id Q (.exit id) T w := by
 simp only [inBlockF, Nat.beq_refl, cond_true]; exact h
theorem xAn {id i : Nat} (hi : Nat.beq i id = false) (h : Q (.exit i) T w) : inBlockF id Q (.exit i) T w := by
 simp only [inBlockF, hi, cond_false]; exact h
theorem xAN {id : Nat} (h : Q .ret T w) : inBlockF id Q .ret T w := h

theorem wrap_mono {Q' : Exit → Fr → World → Prop} (hq : ∀ e T w, Q e T w → Q' e T w) : ∀ e a w, wrap N D Q e a w → wrap N D Q' e a w := fun e a' w' hw => by
 cases e <;> simp only [wrap] at hw ⊢ <;> exact let ⟨T', h1, h2⟩ := hw; ⟨T', h1, hq _ _ _ h2⟩
theorem FW.mono {c : Code} {Q' : Exit → Fr → World → Prop} (h : FW D P N c Q T w) (hq : ∀ e T w, Q e T w → Q' e T w) : FW D P N c Q' T w :=
 fun F hF a ha => wpIn_mono (h F hF a ha) (wrap_mono hq)

theorem xAH (h : Q .normal T w) : FW D P N .skip Q T w := fun F hF a ha => wpIn_skip ⟨T, ha, h⟩
theorem xAc {id : Nat} (h : Q (.exit id) T w) : FW D P N (.exit id) Q T w := fun F hF a ha => wpIn_exit ⟨T, ha, h⟩
theorem FW.goto {l : Nat} (h : Q (.goto l) T w) : FW D P N (.goto l) Q T w := fun F hF a ha => wpIn_goto ⟨T, ha, h⟩
theorem FW.label {l : Nat} (h : Q .normal T w) : FW D P N (.label l) Q T w := fun F hF a ha => wpIn_label ⟨T, ha, h⟩
theorem xAQ (h : Q .ret T w) : FW D P N .ret Q T w := fun F hF a ha => wpIn_ret ⟨T, ha, h⟩
theorem FW.seq {x y : Code} (h : FW D P N x (thenF (FW D P N y Q) Q) T w) : FW D P N (x.seq y) Q T w :=
 fun F hF a ha => wpIn_seq (wpIn_mono (h F hF a ha) fun e a' w' hw => by
  cases e <;> simp only [wrap, thenF, Exit.then] at hw ⊢
  case normal => exact let ⟨T', h1, h2⟩ := hw; h2 F hF a' h1
  all_goals exact hw)
theorem FW.seq_k {x y : Code} (h : ∀ K : Fr → World → Prop, (∀ T w, FW D P N y Q T w → K T w) → FW D P N x (thenF K Q) T w) : FW D P N (x.seq y) Q T w :=
 FW.seq (h _ fun _ _ h => h)
theorem xAK {c : Operand} {x y : Code} (t : Bool) (hc : ev T c = .bool t) (ht : t = true → FW D P N x Q T w) (hf : t = false → FW D P N y Q T w) :
  FW D P N (.cond c x y) Q T w := fun F hF a ha =>
 wpIn_cond (t := t) (by rw [ha.eval]; exact hc) (by
  cases t with
  | true => simpa using ht rfl F hF a ha
  | false => simpa using hf rfl F hF a ha)
theorem xAI {id : Nat} {c : Code} (h : FW D P N c (inBlockF id Q) T w) : FW D P N (.block id c) Q T w :=
 fun F hF a ha => wpIn_block (wpIn_mono (h F hF a ha) fun e a' w' hw => by
  cases e <;> simp only [wrap, inBlockF, Exit.inBlock] at hw ⊢
  case exit i =>
   split
   ·obtain ⟨T', h1, h2⟩ := hw
    rename_i he
    exact ⟨T', h1, by simpa [he] using h2⟩
   ·obtain ⟨T', h1, h2⟩ := hw
    rename_i he
    have hb : Nat.beq i id = false := by
     cases hb : Nat.beq i id with
     | false => rfl
     | true => exact absurd (Nat.eq_of_beq_eq_true hb) he
    exact ⟨T', h1, by simpa [hb] using h2⟩
  all_goals exact hw)
theorem FW.loop {c : Code} {σ : Type} (I : σ → Fr → World → Prop) (μ : σ → Nat) (s₀ : σ) (h₀ : I s₀ T w)
  (round : ∀ s T w, I s T w → FW D P N c (thenF (fun T' w' => ∃ s', I s' T' w' ∧ μ s' < μ s) Q) T w) : FW D P N (.loop c) Q T w := by
 intro F hF a ha b k cs hro hfb hroom
 have key : ∀ n s T a w, μ s = n → I s T w → Rel N D T a →
   ∃ e a' w', wrap N D Q e a' w' ∧ ArrivesIn (Machine.fenced P F) P (lone (b.atR a (.code c :: .inLoop c :: k)) cs w) b k cs e a' w' := by
  intro n
  induction n using Nat.strongRecOn with
  | _ n ih =>
   intro s T a w hn hI ha
   obtain ⟨e, a₁, w₁, hq, harr⟩ := round s T w hI F hF a ha b (.inLoop c :: k) cs hro hfb hroom
   cases e with
   | normal =>
    obtain ⟨T₁, hr, s', hI₁, hlt⟩ := hq
    obtain ⟨e₂, a₂, w₂, hq₂, harr₂⟩ := ih (μ s') (hn ▸ hlt) s' T₁ a₁ w₁ rfl hI₁ hr
    exact ⟨e₂, a₂, w₂, hq₂, .of_steps (StepsIn.trans harr (.one (fenced_calm hfb hroom rfl) stepR_inLoop)) harr₂⟩
   | exit id => exact ⟨.exit id, a₁, w₁, hq, .pass (x := .inLoop c) rfl (fun _ _ => .inl (by simp)) harr⟩
   | goto l => exact ⟨.goto l, a₁, w₁, hq, .pass (x := .inLoop c) rfl (fun _ _ => .inl (by simp)) harr⟩
   | ret => exact ⟨.ret, a₁, w₁, hq, .pass (x := .inLoop c) rfl (fun _ _ => .inl (by simp)) harr⟩
   | panic ch => exact hq.elim
   | outgrown => exact hq.elim
 obtain ⟨e, a', w', hq, harr⟩ := key _ s₀ T a w rfl h₀ ha
 exact ⟨e, a', w', hq, .of_steps (.one (fenced_calm hfb hroom rfl) stepR_loop) harr⟩

theorem xAl {c : Code} (I : Nat → Fr → World → Prop) (m₀ : Nat) (h₀ : I m₀ T w)
  (round : ∀ m T w, I m T w → FW D P N c (thenF (fun T' w' => ∃ m', I m' T' w' ∧ m' < m) Q) T w) : FW D P N (.loop c) Q T w :=
 FW.loop I id m₀ h₀ round
def sets (B : Fr) : List (Nat × Value) → Fr
 | [] => B
 | (d, v) :: l => upd (sets B l) d v
def Holds (T : Fr) : List (Nat × Value) → Prop
 | [] => True
 | (d, v) :: l => T d = v ∧ Holds T l
theorem sets_of {l : List (Nat × Value)} (h : Holds T l) : sets T l = T := by
 induction l with
 | nil => rfl
 | cons p l ih =>
  obtain ⟨d, v⟩ := p
  simp only [sets, ih h.2]
  funext t
  simp only [upd]
  cases hb : Nat.beq t d with
  | false => rfl
  | true => rw [Nat.eq_of_beq_eq_true hb, cond_true]; exact h.1.symm
theorem xAi {c : Code} {l : List (Nat × Value)} (hT : Holds T l) (h : ∀ B : Fr, FW D P N c Q (sets B l) w) : FW D P N c Q T w := by
 rw [← sets_of hT]; exact h T
theorem lt_of_blt {d N : Nat} (h : Nat.blt d N = true) : d < N := by
 simp [Nat.blt] at h
 exact h
def wantedF (ops : Array Oper) (T : Fr) (o : Oper) : Bool :=
 match o.guard with
 | none => true
 | some (j, want) => match (ops[j]?).bind (·.dst) with
  | some d => (match T d with | .bool b => b == want | _ => false)
  | none => false

theorem wanted_eq {ops : Array Oper} {a : Act} (ha : Rel N D T a) (o : Oper) : Region.wanted o (yielded ops a.tmps) = wantedF ops T o := by
 unfold Region.wanted wantedF yielded
 cases hg : o.guard with
 | none => rfl
 | some p =>
  obtain ⟨j, want⟩ := p
  simp only
  cases hd : (ops[j]?).bind (·.dst) with
  | none => rfl
  | some d =>
   have h := ha.get d
   simp only [Option.bind_some]
   rw [Array.getD_eq_getD_getElem?] at h
   cases hx : a.tmps[d]? with
   | none =>
    rw [hx] at h
    simp only [Option.getD_none] at h
    rw [← h]
    simp [undef]
   | some v =>
    rw [hx] at h
    simp only [Option.getD_some] at h
    rw [← h]
    cases v <;> simp <;> (rename_i b; cases b <;> cases want <;> rfl)

def opOk (N : Nat) (o : Oper) : Bool := match o.dst with | some d => Nat.blt d N | none => true
def regOk (N : Nat) (l : List Oper) : Bool := match l with | [] => true | o :: l => (opOk N o).and (regOk N l)
theorem regOk.cons {N : Nat} {o : Oper} {l : List Oper} (h : regOk N (o :: l) = true) : opOk N o = true ∧ regOk N l = true := by
 simpa [regOk] using h
theorem opOk.lt {N : Nat} {o : Oper} {d : Nat} (h : opOk N o = true) (hd : o.dst = some d) : d < N := by
 simp only [opOk, hd] at h
 exact lt_of_blt h
def FWl (D : List Deferred) (P : Program) (N : Nat) (ops : Array Oper) (Q : Exit → Fr → World → Prop) (l : List Oper) (T : Fr) (w : World) : Prop :=
 regOk N l = true → ∀ F, Loose F → ∀ a, Rel N D T a → wpListIn F 0 P ops (wrap N D Q) l a w

theorem xAA {id : Nat} {l : List Oper} (hok : regOk N l = true) (h : FWl D P N l.toArray Q l T w) : FW D P N (.region id l.toArray false) Q T w :=
 fun F hF a ha => wpIn_region_lit (h hok F hF a ha)
theorem FWl.nil {ops : Array Oper} (h : Q .normal T w) : FWl D P N ops Q [] T w := fun _ F hF a ha => ⟨T, ha, h⟩
theorem FWl.skip {ops : Array Oper} {o : Oper} {l : List Oper} (d : Nat) (hd : o.dst = some d) (hw : wantedF ops T o = false)
  (h : FWl D P N ops Q l (upd T d undef) w) : FWl D P N ops Q (o :: l) T w := fun hok F hF a ha => by
 obtain ⟨hok1, hok2⟩ := regOk.cons hok
 simp only [wpListIn, wanted_eq ha, hw, hd]
 exact ⟨fun f _ => hF.fn f, h hok2 F hF _ (ha.put (opOk.lt hok1 hd) _)⟩
theorem semAt_run {F : Fence} {o : Oper} {r : Result Next} (hr : (execOp (ev T) o).run P w = r) (hnd : ∀ d w', r ≠ .ok (.defer d) w') (hst : ∀ s w', r ≠ .halt s w') : (o.semAt F.round (ev T)).run P w = r := by
 rcases hF : F.round with _ | l
 ·exact hr
 ·by_cases hc : ∃ c, o.op = .defer c
  ·exfalso
   obtain ⟨c, hc⟩ := hc
   obtain ⟨dst, op, ty, pos, af, gd⟩ := o
   cases hc
   simp only [execOp, Sem.run_bind] at hr
   cases hq : (resolve (ev T) c ty).run P w with
   | ok d w2 => rw [hq] at hr; exact hnd d w2 (by simpa using hr.symm)
   | halt s w2 => rw [hq] at hr; exact hst s w2 (by simpa using hr.symm)
  ·rw [Oper.semAt_eq (some l) _ _ (fun c h => hc ⟨c, h⟩)]; exact hr
theorem xAm {ops : Array Oper} {o : Oper} {l : List Oper} (d : Nat) (hd : o.dst = some d) (hw : wantedF ops T o = true) (v : Value) (w' : World)
  (hrun : (execOp (ev T) o).run P w = .ok (.value v) w') (h : FWl D P N ops Q l (upd T d v) w') : FWl D P N ops Q (o :: l) T w := fun hok F hF a ha => by
 obtain ⟨hok1, hok2⟩ := regOk.cons hok
 simp only [wpListIn, wanted_eq ha, hw, if_true]
 unfold Oper.wpIn
 refine ⟨fun f _ => hF.fn f, ?_⟩
 rw [ha.eval, semAt_run hrun (fun _ _ => by simp) (fun _ _ => by simp), Oper.uponIn_value, hd]
 exact h hok2 F hF _ (ha.put (opOk.lt hok1 hd) _)
theorem FWl.unit {ops : Array Oper} {o : Oper} {l : List Oper} (hd : o.dst = none) (hw : wantedF ops T o = true) (w' : World)
  (hrun : (execOp (ev T) o).run P w = .ok .skip w') (h : FWl D P N ops Q l T w') : FWl D P N ops Q (o :: l) T w := fun hok F hF a ha => by
 obtain ⟨hok1, hok2⟩ := regOk.cons hok
 simp only [wpListIn, wanted_eq ha, hw, if_true]
 unfold Oper.wpIn
 refine ⟨fun f _ => hF.fn f, ?_⟩
 rw [ha.eval, semAt_run hrun (fun _ _ => by simp) (fun _ _ => by simp), Oper.uponIn_skip, hd]
 exact h hok2 F hF _ ha
def Ret (P : Program) (f : FuncId) (args : Array Value) (w : World) (R : Value → World → Prop) : Prop :=
 Calls P f args w fun e w' => ∃ v, e = .returned v ∧ R v w'
theorem Ret.mono {f : FuncId} {args : Array Value} {R R' : Value → World → Prop} (h : Ret P f args w R) (hr : ∀ v w', R v w' → R' v w') : Ret P f args w R' :=
 Calls.mono h fun _ _ ⟨v, he, h1⟩ => ⟨v, he, hr _ _ h1⟩
theorem xAD {ops : Array Oper} {o : Oper} {l : List Oper} (d : Nat) (hd : o.dst = some d) (hw : wantedF ops T o = true) (f : FuncId) (args : Array Value)
  (hrun : (execOp (ev T) o).run P w = .ok (.enter f args) w) (h : Ret P f args w fun v w' => FWl D P N ops Q l (upd T d v) w') : FWl D P N ops Q (o :: l) T w := fun hok F hF a ha => by
 obtain ⟨hok1, hok2⟩ := regOk.cons hok
 simp only [wpListIn, wanted_eq ha, hw, if_true]
 unfold Oper.wpIn
 refine ⟨fun f _ => hF.fn f, ?_⟩
 rw [ha.eval, semAt_run hrun (fun _ _ => by simp) (fun _ _ => by simp), Oper.uponIn_enter]
 refine ⟨hF.depth, CallsIn.mono (hF.calls h) fun e w' ⟨v, he, h1⟩ => ?_⟩
 subst he
 rw [hd]
 exact h1 hok2 F hF _ (ha.put (opOk.lt hok1 hd) _)
def args0 (args : Array Value) : Fr := fun t => args.getD t undef
def bodyF (P : Program) (fn : Func) (R : Value → World → Prop) : Exit → Fr → World → Prop
 | .normal, T, w | .ret, T, w => ∀ tmps : Array Value, (∀ t, tmps.getD t undef = T t) → ∃ v, (results fn tmps).run P w = .ok v w ∧ R v w
 | _, _, _ => False
theorem rel_args {args : Array Value} {n : Nat} (hn : n = N) (hs : args.size ≤ N) : Rel N [] (args0 args) { tmps := args ++ Array.replicate (n - args.size) undef, defers := [] } := by
 refine ⟨by simp [hn]; omega, rfl, fun t => ?_⟩
 simp only [args0, Array.getD_eq_getD_getElem?, Array.getElem?_append, Array.getElem?_replicate]
 by_cases h1 : t < args.size
 ·simp [h1]
 ·simp only [h1, if_false]
  rw [Array.getElem?_eq_none (by omega)]
  split <;> rfl
theorem Ret.of {f : FuncId} {fn : Func} {c : Code} {args : Array Value} {R : Value → World → Prop} (hf : P.funcs[f]? = some fn) (hb : fn.body = some c) (hn : fn.ntmps = N) (hs' : Nat.ble args.size N = true)
  (h : FW [] P N c (bodyF P fn R) (args0 args) w) : Ret P f args w R := by
 have hs : args.size ≤ N := Nat.le_of_ble_eq_true hs'
 refine calls_of_wp hf hb ?_
 refine wpIn_wide.1 (wpIn_mono (h _ wide_loose _ (rel_args hn hs)) fun e a' w' hw => ?_)
 cases e <;> simp only [wrap, bodyF, bodyPost] at hw ⊢
 case normal =>
  obtain ⟨T', h1, h2⟩ := hw
  obtain ⟨v, hv, hR⟩ := h2 a'.tmps h1.get
  exact ⟨h1.defers, v, hv, v, rfl, hR⟩
 case ret =>
  obtain ⟨T', h1, h2⟩ := hw
  obtain ⟨v, hv, hR⟩ := h2 a'.tmps h1.get
  exact ⟨h1.defers, v, hv, v, rfl, hR⟩
 all_goals first | exact hw.elim | (obtain ⟨_, _, h⟩ := hw; exact h.elim)
theorem xAj {fn : Func} (h : fn.results = #[]) {R : Value → World → Prop} {T : Fr} {w : World} {e : Exit} (he : e = .ret ∨ e = .normal) (hR : R (.tuple #[]) w) : bodyF P fn R e T w := by
 have : ∀ tmps : Array Value, (∀ t, tmps.getD t undef = T t) → ∃ v, (results fn tmps).run P w = .ok v w ∧ R v w := fun tmps ht => ⟨_, results_none h tmps P w, hR⟩
 rcases he with rfl | rfl <;> exact this
theorem xAS {fn : Func} {t : Tmp} (h : fn.results = #[.tmp t]) {R : Value → World → Prop} {T : Fr} {w : World} {e : Exit} (he : e = .ret ∨ e = .normal) {v : Value} (hv : T t = v) (hR : R v w) : bodyF P fn R e T w := by
 subst hv
 have : ∀ tmps : Array Value, (∀ t, tmps.getD t undef = T t) → ∃ v, (results fn tmps).run P w = .ok v w ∧ R v w := fun tmps ht => ⟨T t, by rw [← ht t]; exact results_tmp h tmps P w, hR⟩
 rcases he with rfl | rfl <;> exact this
theorem xAt {fn : Func} {t u : Tmp} (h : fn.results = #[.tmp t, .tmp u]) {R : Value → World → Prop} {T : Fr} {w : World} {e : Exit} (he : e = .ret ∨ e = .normal) {v v' : Value} (hv : T t = v) (hv' : T u = v') (hR : R (.tuple #[v, v']) w) : bodyF P fn R e T w := by
 subst hv hv'
 have : ∀ tmps : Array Value, (∀ t, tmps.getD t undef = T t) → ∃ v, (results fn tmps).run P w = .ok v w ∧ R v w := fun tmps ht => ⟨_, by rw [← ht t, ← ht u] at *; exact results_tmp2 h tmps P w, hR⟩
 rcases he with rfl | rfl <;> exact this
theorem ret_tmp3 {fn : Func} {t u s : Tmp} (h : fn.results = #[.tmp t, .tmp u, .tmp s]) {R : Value → World → Prop} {T : Fr} {w : World} {e : Exit} (he : e = .ret ∨ e = .normal) {v v' v'' : Value} (hv : T t = v) (hv' : T u = v') (hv'' : T s = v'') (hR : R (.tuple #[v, v', v'']) w) : bodyF P fn R e T w := by
 subst hv hv' hv''
 have : ∀ tmps : Array Value, (∀ t, tmps.getD t undef = T t) → ∃ v, (results fn tmps).run P w = .ok v w ∧ R v w := fun tmps ht => ⟨_, by rw [← ht t, ← ht u, ← ht s] at *; exact results_tmp3 h tmps P w, hR⟩
 rcases he with rfl | rfl <;> exact this
end
end Go.Proofs.YtlofomkhiefbmaaGreatDoor

namespace Go.Proofs.YtlofomkhiefbmaaGreatDoor
open Go.RowKit
section
variable {F : Fence} {P : Program} {ops : Array Oper} {Q : Exit → Act → World → Prop} {md : Region.Mode} {S : World → Prop} {Z : Nat → Bool}
theorem semAt_val {o : Oper} {ρ : Operand → Value} {w : World} {v : Value} {w' : World} (ro : Option Nat) (hr : (execOp ρ o).run P w = .ok (.value v) w') : (o.semAt ro ρ).run P w = .ok (.value v) w' := by
 rcases ro with _ | l
 ·exact hr
 ·by_cases hc : ∃ c, o.op = .defer c
  ·exfalso
   obtain ⟨c, hc⟩ := hc
   obtain ⟨dst, op, ty, pos, af, gd⟩ := o
   cases hc
   simp only [execOp, Sem.run_bind] at hr
   cases hq : (resolve ρ c ty).run P w with
   | ok d w2 => rw [hq] at hr; simp at hr
   | halt s w2 => rw [hq] at hr; simp at hr
  ·rw [Oper.semAt_eq (some l) _ _ (fun c h => hc ⟨c, h⟩)]; exact hr
theorem semAt_put {o : Oper} {dst : Option Tmp} {v : Value} (ro : Option Nat) (a : Act) (h : ∀ d, dst = some d → d ∉ o.looksAt ops) (hsj : ∀ cs b, o.op ≠ .select cs b) : o.semAt ro (a.put dst v).eval = o.semAt ro a.eval := by
 have he := execOp_put o hsj a dst v h
 rcases ro with _ | l
 ·exact he
 ·by_cases hc : ∃ c, o.op = .defer c
  ·obtain ⟨c, hc⟩ := hc
   unfold Oper.semAt
   simp only [hc]
   have e := resolve_congr (ρ := (a.put dst v).eval) (ρ' := a.eval) c o.type (fun x hx => Act.eval_put fun d hd hxd => h d hd (by
    subst hxd
    exact List.mem_append_left _ (List.mem_filterMap.2 ⟨.tmp d, by rw [hc]; simpa [Op.operands] using hx, rfl⟩)))
   rw [e]
  ·rw [Oper.semAt_eq (some l) _ _ (fun c h => hc ⟨c, h⟩), Oper.semAt_eq (some l) _ _ (fun c h => hc ⟨c, h⟩)]; exact he
theorem yieldsIf_wpOpIn (hF : Loose F) {i : Nat} {o : Oper} {v : Value} {a : Act} (hi : ops[i]? = some o) (hy : YieldsIf P ops S o v a)
  {K : Act → World → Prop} {w : World} (hS : S w) (h : K (a.put o.dst v) w) : wpOpIn F 0 P ops Q i K a w := by
 unfold Go.wpOpIn
 simp only [hi]
 rcases hy with ⟨hw, hv⟩ | ⟨hw, rfl⟩
 ·simp only [hw, if_true, Oper.wpIn, semAt_val F.round (hv w hS), Oper.uponIn]; exact ⟨fun f _ => hF.fn f, h⟩
 ·simp only [hw, Bool.false_eq_true, if_false]; exact ⟨fun f _ => hF.fn f, h⟩
theorem wpOpIn_putIf {j : Nat} {oi oj : Oper} {v : Value} (hj : ops[j]? = some oj) (hap : oi.apart ops oj = true)
  (hsi : ∀ cs b, oi.op ≠ .select cs b) (hsj : ∀ cs b, oj.op ≠ .select cs b)
  (hQ : ∀ c a w, Q (.panic c) (a.put oi.dst v) w → Q (.panic c) a w) {K : Act → World → Prop} {a : Act} {w : World}
  (hy : YieldsIf P ops S oi v a) (h : wpOpIn F 0 P ops Q j K (a.put oi.dst v) w) :
  wpOpIn F 0 P ops Q j (fun a' w' => YieldsIf P ops S oi v a' ∧ K (a'.put oi.dst v) w') a w := by
 obtain ⟨h1, h2, h3⟩ := Oper.apart_spec hap
 have keep : ∀ (a : Act), YieldsIf P ops S oi v a → ∀ u, YieldsIf P ops S oi v (a.put oj.dst u) := fun a hy u =>
  hy.of_same (execOp_put oi hsi a oj.dst u h3) (wanted_put oi a oj.dst u h3)
 have keepD : ∀ d, YieldsIf P ops S oi v { a with defers := d :: a.defers } := fun d => hy.of_same rfl rfl
 unfold wpOpIn at *
 simp only [hj] at *
 rw [wanted_put oj a oi.dst v h1, about_put oj w a oi.dst v h1] at h
 split
 ·rename_i hw
  simp only [hw, if_true] at h
  unfold Oper.wpIn at *
  rw [about_put oj w a oi.dst v h1] at h
  refine ⟨h.1, ?_⟩
  have h := h.2
  rw [semAt_put (ops := ops) F.round a h1 hsj] at h
  generalize (oj.semAt F.round a.eval).run P w = r at *
  cases r with
  | ok n w' =>
   cases n <;> simp only [Oper.uponIn] at h ⊢
   case value u => exact ⟨keep a hy u, by rw [← Act.put_comm a v u h2]; exact h⟩
   case skip => exact ⟨keep a hy _, by rw [← Act.put_comm a v undef h2]; exact h⟩
   case defer d =>
    refine ⟨keep _ (keepD d) _, ?_⟩
    rw [← Act.put_comm _ v undef h2, ← Act.put_defers]
    exact h
   case enter f args =>
    refine ⟨h.1, CallsIn.mono h.2 fun e w'' he => ?_⟩
    cases e with
    | returned u => exact ⟨keep a hy u, by rw [← Act.put_comm a v u h2]; exact he⟩
    | panicked c => exact hQ _ _ _ he
    | outgrown => exact he
   case row row args => exact ⟨h.1, RowsIn.mono h.2 fun u w'' he => ⟨keep a hy u, by rw [← Act.put_comm a v u h2]; exact he⟩⟩
   case round l f tmps assign body =>
    refine ⟨h.1, RoundIn.mono h.2 fun e w'' he => ?_⟩
    cases e with
    | returned u => exact ⟨keep a hy u, by rw [← Act.put_comm a v u h2]; exact he⟩
    | panicked c => exact hQ _ _ _ he
    | outgrown => exact he
  | halt x w' =>
   cases x <;> simp only [Oper.uponIn] at h ⊢
   case panic u => exact hQ _ _ _ h
 ·rename_i hw
  simp only [hw] at h
  exact ⟨h.1, keep a hy _, by rw [← Act.put_comm a v undef h2]; exact h.2⟩

def wpAnyG (F : Fence) (P : Program) (md : Region.Mode) (ops : Array Oper) (Q : Exit → Act → World → Prop) (S : World → Prop) (Z : Nat → Bool) : Nat → Array Bool → Act → World → Prop
 | 0, listed, a, w => Region.ready md ops listed = [] ∧ Q .normal a w
 | fuel + 1, listed, a, w =>
  (Region.ready md ops listed = [] → Q .normal a w) ∧
  ∀ i ∈ Region.ready md ops listed, wpOpIn F 0 P ops Q i (fun a' w' => (Z i = true ∨ (S w → S w')) ∧ wpAnyG F P md ops Q S Z fuel (listed.setIfInBounds i true) a' w') a w
theorem wpAny_of_G : ∀ (fuel : Nat) (listed : Array Bool) (a : Act) (w : World), wpAnyG F P md ops Q S Z fuel listed a w → wpAnyIn F 0 P md ops Q fuel listed a w
 | 0, _, _, _, h => h
 | fuel + 1, _, _, _, h => ⟨h.1, fun i hi => wpOpIn_mono (fun a' w' h' => wpAny_of_G fuel _ a' w' h'.2) (h.2 i hi)⟩
theorem wpAnyG_first (hF : Loose F) {i : Nat} {oi : Oper} {v : Value} (hi : ops[i]? = some oi) (hsel : ∀ (j : Nat) (o : Oper) cs b, ops[j]? = some o → o.op ≠ .select cs b)
  (hQ : ∀ c a w, Q (.panic c) (a.put oi.dst v) w → Q (.panic c) a w)
  (hZ : ∀ j oj, ops[j]? = some oj → Z j = true → ∃ e ∈ oj.after, Region.binds md e = true ∧ e.on = i) :
  ∀ (fuel : Nat) (listed : Array Bool) (a : Act) (w : World),
   (∀ j oj, ops[j]? = some oj → j ≠ i → listed.getD j true = false → (∀ e ∈ oj.after, Region.binds md e = true → e.on ≠ i) → oi.apart ops oj = true) →
   i ∈ Region.ready md ops listed → YieldsIf P ops S oi v a → S w →
   wpAnyG F P md ops Q S Z fuel (listed.setIfInBounds i true) (a.put oi.dst v) w → wpAnyG F P md ops Q S Z (fuel + 1) listed a w := by
 intro fuel
 induction fuel with
 | zero =>
  intro listed a w _ hr hy hS H
  refine ⟨fun h => (by rw [h] at hr; cases hr), fun j hj => ?_⟩
  by_cases hji : j = i
  ·subst hji; exact yieldsIf_wpOpIn hF hi hy hS ⟨.inr id, H⟩
  ·have := ready_mono hj hji
   rw [H.1] at this
   cases this
 | succ fuel ih =>
  intro listed a w hfree hr hy hS H
  refine ⟨fun h => (by rw [h] at hr; cases hr), fun j hj => ?_⟩
  by_cases hji : j = i
  ·subst hji; exact yieldsIf_wpOpIn hF hi hy hS ⟨.inr id, H⟩
  ·have h1 := H.2 j (ready_mono hj hji)
   obtain ⟨hjun, oj, hoj, hall⟩ := mem_ready.1 hj
   have hnot : ∀ e ∈ oj.after, Region.binds md e = true → e.on ≠ i := fun e he hb heq => by
    have h1 := hall e he hb
    have h0 := (mem_ready.1 hr).1
    rw [heq] at h1
    rcases Nat.lt_or_ge i listed.size with h' | h'
    ·simp [h'] at h0 h1; rw [h0] at h1; cases h1
    ·simp [Array.getElem?_eq_none h'] at h1
   have h2 := wpOpIn_putIf hoj (hfree j oj hoj hji hjun hnot) (fun cs b => hsel i oi cs b hi) (fun cs b => hsel j oj cs b hoj) hQ hy h1
   have hfree' : ∀ k ok, ops[k]? = some ok → k ≠ i → (listed.setIfInBounds j true).getD k true = false →
     (∀ e ∈ ok.after, Region.binds md e = true → e.on ≠ i) → oi.apart ops ok = true := fun k ok hk hki hun hno => by
    refine hfree k ok hk hki ?_ hno
    by_cases hjk : j = k
    ·subst hjk; exact hjun
    ·rw [getD_set_ne true hjk] at hun; exact hun
   refine wpOpIn_mono (fun a' w' h3 => ?_) h2
   obtain ⟨h3, h4, h5⟩ := h3
   have hSw : S w' := by
    rcases h4 with h4 | h4
    ·obtain ⟨e, he, hb, hon⟩ := hZ j oj hoj h4
     exact absurd hon (hnot e he hb)
    ·exact h4 hS
   exact ⟨.inr fun _ => hSw, ih (listed.setIfInBounds j true) a' w' hfree' (ready_mono hr (Ne.symm hji)) h3 hSw (by rw [Array.setIfInBounds_comm _ _ hji]; exact h5)⟩

theorem wpAnyG_pure (hF : Loose F) {i : Nat} {oi : Oper} {v : Value} (hi : ops[i]? = some oi) (hsel : ∀ (j : Nat) (o : Oper) cs b, ops[j]? = some o → o.op ≠ .select cs b)
  (hQ : ∀ c a w, Q (.panic c) (a.put oi.dst v) w → Q (.panic c) a w) :
  ∀ (fuel : Nat) (listed : Array Bool) (a : Act) (w : World),
   (∀ j oj, ops[j]? = some oj → j ≠ i → listed.getD j true = false → (∀ e ∈ oj.after, Region.binds md e = true → e.on ≠ i) → oi.apart ops oj = true) →
   i ∈ Region.ready md ops listed → YieldsIf P ops (fun _ => True) oi v a →
   wpAnyG F P md ops Q S Z fuel (listed.setIfInBounds i true) (a.put oi.dst v) w → wpAnyG F P md ops Q S Z (fuel + 1) listed a w := by
 intro fuel
 induction fuel with
 | zero =>
  intro listed a w _ hr hy H
  refine ⟨fun h => (by rw [h] at hr; cases hr), fun j hj => ?_⟩
  by_cases hji : j = i
  ·subst hji; exact yieldsIf_wpOpIn hF hi hy trivial ⟨.inr id, H⟩
  ·have := ready_mono hj hji
   rw [H.1] at this
   cases this
 | succ fuel ih =>
  intro listed a w hfree hr hy H
  refine ⟨fun h => (by rw [h] at hr; cases hr), fun j hj => ?_⟩
  by_cases hji : j = i
  ·subst hji; exact yieldsIf_wpOpIn hF hi hy trivial ⟨.inr id, H⟩
  ·have h1 := H.2 j (ready_mono hj hji)
   obtain ⟨hjun, oj, hoj, hall⟩ := mem_ready.1 hj
   have hnot : ∀ e ∈ oj.after, Region.binds md e = true → e.on ≠ i := fun e he hb heq => by
    have h1 := hall e he hb
    have h0 := (mem_ready.1 hr).1
    rw [heq] at h1
    rcases Nat.lt_or_ge i listed.size with h' | h'
    ·simp [h'] at h0 h1; rw [h0] at h1; cases h1
    ·simp [Array.getElem?_eq_none h'] at h1
   have h2 := wpOpIn_putIf hoj (hfree j oj hoj hji hjun hnot) (fun cs b => hsel i oi cs b hi) (fun cs b => hsel j oj cs b hoj) hQ hy h1
   have hfree' : ∀ k ok, ops[k]? = some ok → k ≠ i → (listed.setIfInBounds j true).getD k true = false →
     (∀ e ∈ ok.after, Region.binds md e = true → e.on ≠ i) → oi.apart ops ok = true := fun k ok hk hki hun hno => by
    refine hfree k ok hk hki ?_ hno
    by_cases hjk : j = k
    ·subst hjk; exact hjun
    ·rw [getD_set_ne true hjk] at hun; exact hun
   refine wpOpIn_mono (fun a' w' h3 => ?_) h2
   obtain ⟨h3, h4, h5⟩ := h3
   exact ⟨h4, ih (listed.setIfInBounds j true) a' w' hfree' (ready_mono hr (Ne.symm hji)) h3 (by rw [Array.setIfInBounds_comm _ _ hji]; exact h5)⟩

def zWaits (ops : Array Oper) (zs : List Nat) (i : Nat) : Bool :=
 zs.all fun j => match ops[j]? with
  | some o => o.after.any fun e => Region.binds .any e && e.on == i
  | none => true
inductive STr where
 | done
 | take (i : Nat) (t : STr)
 | pure (i : Nat) (t : STr)
 | one (i : Nat) (t : STr)
 | two (i : Nat) (t : STr) (j : Nat) (u : STr)
def schedOk (ops : Array Oper) (zs : List Nat) : STr → Nat → Array Bool → Bool
 | .done, n, listed => (n == 0) && (Region.ready .any ops listed).isEmpty
 | .take i t, n, listed => Nat.blt 0 n && Region.free .any ops listed i && (Region.ready .any ops listed).contains i && zWaits ops zs i && schedOk ops zs t (n - 1) (listed.setIfInBounds i true)
 | .pure i t, n, listed => Nat.blt 0 n && Region.free .any ops listed i && (Region.ready .any ops listed).contains i && schedOk ops zs t (n - 1) (listed.setIfInBounds i true)
 | .one i t, n, listed => Nat.blt 0 n && (Region.ready .any ops listed == [i]) && schedOk ops zs t (n - 1) (listed.setIfInBounds i true)
 | .two i t j u, n, listed => Nat.blt 0 n && (Region.ready .any ops listed == [i, j]) && schedOk ops zs t (n - 1) (listed.setIfInBounds i true) && schedOk ops zs u (n - 1) (listed.setIfInBounds j true)

def wpS (F : Fence) (P : Program) (ops : Array Oper) (Q : Exit → Act → World → Prop) (S : World → Prop) (zs : List Nat) : STr → Act → World → Prop
 | .done, a, w => Q .normal a w
 | .take i rest, a, w => ∃ oi v, ops[i]? = some oi ∧ S w ∧ YieldsIf P ops S oi v a ∧ wpS F P ops Q S zs rest (a.put oi.dst v) w
 | .pure i rest, a, w => ∃ oi v, ops[i]? = some oi ∧ YieldsIf P ops (fun _ => True) oi v a ∧ wpS F P ops Q S zs rest (a.put oi.dst v) w
 | .one i rest, a, w => wpOpIn F 0 P ops Q i (fun a' w' => (zs.contains i = true ∨ S w') ∧ wpS F P ops Q S zs rest a' w') a w
 | .two i t j u, a, w => wpOpIn F 0 P ops Q i (fun a' w' => (zs.contains i = true ∨ S w') ∧ wpS F P ops Q S zs t a' w') a w ∧ wpOpIn F 0 P ops Q j (fun a' w' => (zs.contains j = true ∨ S w') ∧ wpS F P ops Q S zs u a' w') a w

theorem wpAnyG_of_S (hF : Loose F) (hs : Region.noSelect ops = true) (hQ : ∀ c a w (d : Option Tmp) v, Q (.panic c) (a.put d v) w → Q (.panic c) a w) {zs : List Nat} :
  ∀ (l : STr) (n : Nat) (listed : Array Bool) (a : Act) (w : World), schedOk ops zs l n listed = true → wpS F P ops Q S zs l a w → wpAnyG F P .any ops Q S (fun i => zs.contains i) n listed a w
 | .done, n, listed, a, w, hok, h => by
  simp only [schedOk, Bool.and_eq_true, beq_iff_eq] at hok
  obtain ⟨rfl, h0⟩ := hok
  exact ⟨by simpa using h0, h⟩
 | .take i rest, n, listed, a, w, hok, h => by
  simp only [schedOk, Bool.and_eq_true] at hok
  obtain ⟨⟨⟨⟨hn, hf⟩, hr⟩, hz⟩, hok⟩ := hok
  obtain ⟨m, rfl⟩ : ∃ m, n = m + 1 := ⟨n - 1, by have := lt_of_blt hn; omega⟩
  obtain ⟨oi, v, hi, hS, hy, h⟩ := h
  refine wpAnyG_first hF hi (Region.noSelect_spec hs) (fun c a w => hQ c a w _ _) (fun j oj hj hZ => ?_) m listed a w (Region.free_spec hi hf) (by simpa using hr) hy hS (wpAnyG_of_S hF hs hQ rest _ _ _ _ hok h)
  simp only [zWaits, List.all_eq_true] at hz
  have := hz j (by simpa using hZ)
  rw [hj] at this
  obtain ⟨e, he, hb⟩ := Array.any_eq_true'.1 this
  simp only [Bool.and_eq_true, beq_iff_eq] at hb
  exact ⟨e, he, hb.1, hb.2⟩
 | .pure i rest, n, listed, a, w, hok, h => by
  simp only [schedOk, Bool.and_eq_true] at hok
  obtain ⟨⟨⟨hn, hf⟩, hr⟩, hok⟩ := hok
  obtain ⟨m, rfl⟩ : ∃ m, n = m + 1 := ⟨n - 1, by have := lt_of_blt hn; omega⟩
  obtain ⟨oi, v, hi, hy, h⟩ := h
  exact wpAnyG_pure hF hi (Region.noSelect_spec hs) (fun c a w => hQ c a w _ _) m listed a w (Region.free_spec hi hf) (by simpa using hr) hy (wpAnyG_of_S hF hs hQ rest _ _ _ _ hok h)
 | .one i rest, n, listed, a, w, hok, h => by
  simp only [schedOk, Bool.and_eq_true, beq_iff_eq] at hok
  obtain ⟨⟨hn, hr⟩, hok⟩ := hok
  obtain ⟨m, rfl⟩ : ∃ m, n = m + 1 := ⟨n - 1, by have := lt_of_blt hn; omega⟩
  refine ⟨fun h0 => (by rw [hr] at h0; cases h0), fun j hj => ?_⟩
  rw [hr] at hj
  simp only [List.mem_singleton] at hj
  subst hj
  exact wpOpIn_mono (fun a' w' h' => ⟨h'.1.imp id fun h _ => h, wpAnyG_of_S hF hs hQ rest _ _ _ _ hok h'.2⟩) h
 | .two i t j u, n, listed, a, w, hok, h => by
  simp only [schedOk, Bool.and_eq_true, beq_iff_eq] at hok
  obtain ⟨⟨⟨hn, hr⟩, hok⟩, hok2⟩ := hok
  obtain ⟨m, rfl⟩ : ∃ m, n = m + 1 := ⟨n - 1, by have := lt_of_blt hn; omega⟩
  refine ⟨fun h0 => (by rw [hr] at h0; cases h0), fun k hk => ?_⟩
  rw [hr] at hk
  simp only [List.mem_cons, List.not_mem_nil, or_false] at hk
  rcases hk with rfl | rfl
  ·exact wpOpIn_mono (fun a' w' h' => ⟨h'.1.imp id fun h _ => h, wpAnyG_of_S hF hs hQ t _ _ _ _ hok h'.2⟩) h.1
  ·exact wpOpIn_mono (fun a' w' h' => ⟨h'.1.imp id fun h _ => h, wpAnyG_of_S hF hs hQ u _ _ _ _ hok2 h'.2⟩) h.2
end

theorem regOk_mem {N : Nat} {o : Oper} (l : List Oper) (h : regOk N l = true) (hm : o ∈ l) : opOk N o = true := by
 induction l with
 | nil => cases hm
 | cons o' l ih =>
  have := regOk.cons h
  rcases List.mem_cons.1 hm with rfl | hm
  ·exact this.1
  ·exact ih this.2 hm
theorem regOk_at {N : Nat} {ops : Array Oper} {i : Nat} {o : Oper} (h : regOk N ops.toList = true) (hi : ops[i]? = some o) : opOk N o = true :=
 regOk_mem _ h (by rw [← Array.getElem?_toList] at hi; exact List.mem_of_getElem? hi)
section
variable {D : List Deferred} {P : Program} {N : Nat} {Q : Exit → Fr → World → Prop} {T : Fr} {w : World}
def FWs (D : List Deferred) (P : Program) (N : Nat) (ops : Array Oper) (Q : Exit → Fr → World → Prop) (S : World → Prop) (zs : List Nat) (l : STr) (T : Fr) (w : World) : Prop :=
 regOk N ops.toList = true → ∀ F, Loose F → ∀ a, Rel N D T a → wpS F P ops (wrap N D Q) S zs l a w
theorem xAT {id : Nat} {l : List Oper} (hm : P.follows .mixedOrders = true) (S : World → Prop) (zs : List Nat) (sched : STr)
  (hreg : regOk N l = true) (hok : (Region.noSelect l.toArray && schedOk l.toArray zs sched l.length (Array.replicate l.length false)) = true)
  (h : FWs D P N l.toArray Q S zs sched T w.drew) : FW D P N (.region id l.toArray true) Q T w := fun F hF a ha => by
 simp only [Bool.and_eq_true] at hok
 obtain ⟨hs, hok⟩ := hok
 refine wpIn_region_any hm ?_
 have := wpAny_of_G _ _ _ _ (wpAnyG_of_S hF (P := P) (Q := wrap N D Q) (S := S) hs (fun c a w d v h => h.elim) sched l.length (Array.replicate l.length false) a w.drew hok (h hreg F hF a ha))
 simpa using this
theorem xAf {ops : Array Oper} {S : World → Prop} {zs : List Nat} (h : Q .normal T w) : FWs D P N ops Q S zs .done T w := fun _ F hF a ha => ⟨T, ha, h⟩
variable {ops : Array Oper} {S : World → Prop} {zs : List Nat} {l : STr} {i : Nat} {o : Oper}
theorem FWs.two {u : STr} {j : Nat} (h1 : FWs D P N ops Q S zs (.one i l) T w) (h2 : FWs D P N ops Q S zs (.one j u) T w) : FWs D P N ops Q S zs (.two i l j u) T w := fun hok F hF a ha => ⟨h1 hok F hF a ha, h2 hok F hF a ha⟩
theorem FWs.take (hi : ops[i]? = some o) (d : Nat) (hd : o.dst = some d) (hw : wantedF ops T o = true) (v : Value) (hS : S w)
  (hrun : ∀ w', S w' → (execOp (ev T) o).run P w' = .ok (.value v) w') (h : FWs D P N ops Q S zs l (upd T d v) w) : FWs D P N ops Q S zs (.take i l) T w := fun hok F hF a ha => by
 refine ⟨o, v, hi, hS, .inl ⟨by rw [wanted_eq ha]; exact hw, fun w' hw' => by rw [ha.eval]; exact hrun w' hw'⟩, ?_⟩
 rw [hd]
 exact h hok F hF _ (ha.put (opOk.lt (regOk_at hok hi) hd) _)
theorem FWs.pure (hi : ops[i]? = some o) (d : Nat) (hd : o.dst = some d) (hw : wantedF ops T o = true) (v : Value)
  (hrun : ∀ w', (execOp (ev T) o).run P w' = .ok (.value v) w') (h : FWs D P N ops Q S zs l (upd T d v) w) : FWs D P N ops Q S zs (.pure i l) T w := fun hok F hF a ha => by
 refine ⟨o, v, hi, .inl ⟨by rw [wanted_eq ha]; exact hw, fun w' _ => by rw [ha.eval]; exact hrun w'⟩, ?_⟩
 rw [hd]
 exact h hok F hF _ (ha.put (opOk.lt (regOk_at hok hi) hd) _)
theorem xAr (hi : ops[i]? = some o) (d : Nat) (hd : o.dst = some d) (hw : wantedF ops T o = false)
  (h : FWs D P N ops Q S zs l (upd T d undef) w) : FWs D P N ops Q S zs (.pure i l) T w := fun hok F hF a ha => by
 refine ⟨o, undef, hi, .inr ⟨by rw [wanted_eq ha]; exact hw, rfl⟩, ?_⟩
 rw [hd]
 exact h hok F hF _ (ha.put (opOk.lt (regOk_at hok hi) hd) _)
theorem xAa (hi : ops[i]? = some o) (d : Nat) (hd : o.dst = some d) (hw : wantedF ops T o = false) (hS : S w)
  (h : FWs D P N ops Q S zs l (upd T d undef) w) : FWs D P N ops Q S zs (.take i l) T w := fun hok F hF a ha => by
 refine ⟨o, undef, hi, hS, .inr ⟨by rw [wanted_eq ha]; exact hw, rfl⟩, ?_⟩
 rw [hd]
 exact h hok F hF _ (ha.put (opOk.lt (regOk_at hok hi) hd) _)
theorem xAO (hi : ops[i]? = some o) (d : Nat) (hd : o.dst = some d) (hw : wantedF ops T o = false) (hS : zs.contains i = true ∨ S w)
  (h : FWs D P N ops Q S zs l (upd T d undef) w) : FWs D P N ops Q S zs (.one i l) T w := fun hok F hF a ha => by
 simp only [wpS, wpOpIn, hi, wanted_eq ha, hw, hd]
 exact ⟨fun f _ => hF.fn f, hS, h hok F hF _ (ha.put (opOk.lt (regOk_at hok hi) hd) _)⟩
theorem xBB (hi : ops[i]? = some o) (d : Nat) (hd : o.dst = some d) (hw : wantedF ops T o = true) (v : Value) (w' : World)
  (hrun : (execOp (ev T) o).run P w = .ok (.value v) w') (hS : zs.contains i = true ∨ S w') (h : FWs D P N ops Q S zs l (upd T d v) w') : FWs D P N ops Q S zs (.one i l) T w := fun hok F hF a ha => by
 simp only [wpS, wpOpIn, hi, wanted_eq ha, hw, if_true]
 unfold Oper.wpIn
 refine ⟨fun f _ => hF.fn f, ?_⟩
 rw [ha.eval, semAt_run hrun (fun _ _ => by simp) (fun _ _ => by simp), Oper.uponIn_value, hd]
 exact ⟨hS, h hok F hF _ (ha.put (opOk.lt (regOk_at hok hi) hd) _)⟩
theorem FWs.unit (hi : ops[i]? = some o) (hd : o.dst = none) (hw : wantedF ops T o = true) (w' : World)
  (hrun : (execOp (ev T) o).run P w = .ok .skip w') (hS : zs.contains i = true ∨ S w') (h : FWs D P N ops Q S zs l T w') : FWs D P N ops Q S zs (.one i l) T w := fun hok F hF a ha => by
 simp only [wpS, wpOpIn, hi, wanted_eq ha, hw, if_true]
 unfold Oper.wpIn
 refine ⟨fun f _ => hF.fn f, ?_⟩
 rw [ha.eval, semAt_run hrun (fun _ _ => by simp) (fun _ _ => by simp), Oper.uponIn_skip, hd]
 exact ⟨hS, h hok F hF _ ha⟩
theorem xAk (hi : ops[i]? = some o) (d : Nat) (hd : o.dst = some d) (hw : wantedF ops T o = true) (f : FuncId) (args : Array Value)
  (hrun : (execOp (ev T) o).run P w = .ok (.enter f args) w)
  (h : Ret P f args w fun v w' => (zs.contains i = true ∨ S w') ∧ FWs D P N ops Q S zs l (upd T d v) w') : FWs D P N ops Q S zs (.one i l) T w := fun hok F hF a ha => by
 simp only [wpS, wpOpIn, hi, wanted_eq ha, hw, if_true]
 unfold Oper.wpIn
 refine ⟨fun f _ => hF.fn f, ?_⟩
 rw [ha.eval, semAt_run hrun (fun _ _ => by simp) (fun _ _ => by simp), Oper.uponIn_enter]
 refine ⟨hF.depth, CallsIn.mono (hF.calls h) fun e w' ⟨v, he, h0, h1⟩ => ?_⟩
 subst he
 rw [hd]
 exact ⟨h0, h1 hok F hF _ (ha.put (opOk.lt (regOk_at hok hi) hd) _)⟩
end
end Go.Proofs.YtlofomkhiefbmaaGreatDoor

namespace Go.Proofs.YtlofomkhiefbmaaGreatDoor
open Go.RowKit

abbrev Gh := Nat → Nat → Option Value
def Has (w : World) (C : Gh) : Prop := ∀ b o v, C b o = some v → w.cell? ⟨b, o, none⟩ = some v
def Gle (C C' : Gh) : Prop := ∀ b o v, C b o = some v → C' b o = some v
theorem Gle.refl (C : Gh) : Gle C C := fun _ _ _ h => h
theorem Gle.trans {C C' C'' : Gh} (h : Gle C C') (k : Gle C' C'') : Gle C C'' := fun b o v e => k b o v (h b o v e)
structure Ext (B : Nat) (w : World) (C : Gh) (w' : World) (C' : Gh) : Prop where
 below : Below B w w'
 has : Has w' C'
 le : Gle C C'
 old : ∀ b o, b < B → C' b o = C b o
theorem Ext.refl {B : Nat} {w : World} {C : Gh} (h : Has w C) : Ext B w C w C := ⟨Below.refl _ _, h, Gle.refl _, fun _ _ _ => rfl⟩
theorem Ext.trans {B : Nat} {w w1 w2 : World} {C C1 C2 : Gh} (h : Ext B w C w1 C1) (k : Ext B w1 C1 w2 C2) : Ext B w C w2 C2 :=
 ⟨h.below.trans k.below, k.has, h.le.trans k.le, fun b o hb => (k.old b o hb).trans (h.old b o hb)⟩
theorem Ext.mono {B B' : Nat} {w w1 : World} {C C1 : Gh} (h : Ext B w C w1 C1) (hB : B' ≤ B) : Ext B' w C w1 C1 :=
 ⟨h.below.mono hB, h.has, h.le, fun b o hb => h.old b o (Nat.lt_of_lt_of_le hb hB)⟩
theorem Ext.step {w0 w w1 : World} {C0 C C1 : Gh} (h : Ext w0.heap.size w0 C0 w C) (e : Ext w.heap.size w C w1 C1) : Ext w0.heap.size w0 C0 w1 C1 := h.trans (e.mono h.below.size)
theorem Ext.size {B : Nat} {w w1 : World} {C C1 : Gh} (h : Ext B w C w1 C1) : w.heap.size ≤ w1.heap.size := h.below.size
theorem Ext.call {B : Nat} {w w1 w2 : World} {C C1 C2 : Gh} (h : Ext B w C w1 C1) (k : Ext w1.heap.size w1 C1 w2 C2) (hB : B ≤ w1.heap.size) : Ext B w C w2 C2 := h.trans (k.mono hB)
theorem Has.drew {w : World} {C : Gh} (h : Has w C) : Has w.drew C := h
theorem Ext.drew {B : Nat} {w w1 : World} {C C1 : Gh} (h : Ext B w C w1 C1) : Ext B w C w1.drew C1 := ⟨h.below.drew, h.has, h.le, h.old⟩
theorem Has.of_below {B : Nat} {w w' : World} {C : Gh} (h : Has w C) (hb : Below B w w') (hC : ∀ b o v, C b o = some v → b < B) : Has w' C := fun b o v e => by
 rw [hb.cell (p := ⟨b, o, none⟩) (hC b o v e)]
 exact h b o v e
theorem Has.lt {w : World} {C : Gh} (h : Has w C) {b o : Nat} {v : Value} (e : C b o = some v) : b < w.heap.size := World.block_lt_of_cell? w _ (h b o v e)
theorem Has.none {w : World} {C : Gh} (h : Has w C) {b : Nat} (o : Nat) (hb : w.heap.size ≤ b) : C b o = none := by
 cases e : C b o with
 | none => rfl
 | some v => exact absurd (h.lt e) (by omega)
theorem Has.below {w w' : World} {C : Gh} (h : Has w C) (hb : Below w.heap.size w w') : Has w' C := h.of_below hb fun _ _ _ e => h.lt e
theorem Ext.same {B : Nat} {w w1 w2 : World} {C C1 : Gh} (h : Ext B w C w1 C1) (hb : Below w1.heap.size w1 w2) (hB : B ≤ w1.heap.size) : Ext B w C w2 C1 :=
 ⟨h.below.trans (hb.mono hB), h.has.below hb, h.le, h.old⟩
theorem Ext.alloc {B : Nat} {w w1 : World} {C C1 : Gh} (h : Ext B w C w1 C1) (hB : B ≤ w1.heap.size) (o : Obj) : Ext B w C (w1.alloc o) C1 :=
 h.same ((Below.refl _ _).alloc (Nat.le_refl _) o) hB

def Seg (C : Gh) (g o : Nat) (cs : List Value) : Prop := ∀ i v, cs[i]? = some v → C g (o + i) = some v
theorem Seg.mono {C C' : Gh} {g o : Nat} {cs : List Value} (h : Seg C g o cs) (k : Gle C C') : Seg C' g o cs := fun i v e => k _ _ _ (h i v e)
structure Kd (α : Type) where
 sz : Nat
 R : Gh → α → List Value → Prop
 len : ∀ C x cs, R C x cs → cs.length = sz
 one : ∀ C x cs, R C x cs → ∀ v ∈ cs, v.oneCell' = true
 mono : ∀ C C' x cs, Gle C C' → R C x cs → R C' x cs
def CellsG (C : Gh) (A : Option Addr) (k : Nat) (cs : List Value) : Prop := ∃ g o, A = some ⟨g, o, none⟩ ∧ Seg C g (o + k) cs
theorem CellsG.mono {C C' : Gh} {A : Option Addr} {k : Nat} {cs : List Value} (h : CellsG C A k cs) (hle : Gle C C') : CellsG C' A k cs :=
 let ⟨g, o, hA, hs⟩ := h; ⟨g, o, hA, hs.mono hle⟩
structure Sl {α : Type} (K : Kd α) (C : Gh) (A : Option Addr) (c : Nat) (xs : List α) : Prop where
 le : xs.length ≤ c
 bd : xs.length ≤ 140737488355328
 at_ : ∀ j x, xs[j]? = some x → ∃ cs, K.R C x cs ∧ CellsG C A (j * K.sz) cs
theorem Sl.mono {α : Type} {K : Kd α} {C C' : Gh} {A : Option Addr} {c : Nat} {xs : List α} (h : Sl K C A c xs) (hle : Gle C C') : Sl K C' A c xs :=
 ⟨h.le, h.bd, fun j x e => let ⟨cs, h1, h2⟩ := h.at_ j x e; ⟨cs, K.mono _ _ _ _ hle h1, h2.mono hle⟩⟩
theorem Sl.nil {α : Type} (K : Kd α) (C : Gh) (A : Option Addr) (c : Nat) : Sl K C A c [] := ⟨Nat.zero_le _, by simp, fun j x e => by simp at e⟩
theorem Sl.isSome {α : Type} {K : Kd α} {C : Gh} {A : Option Addr} {c : Nat} {xs : List α} (h : Sl K C A c xs) (hn : 0 < xs.length) : A.isSome = true := by
 obtain ⟨cs, _, g, o, hA, _⟩ := h.at_ 0 xs[0] (by simp [hn])
 simp [hA]
def kInt (k : IntKind) : Kd Int where
 sz := 1
 R _ x cs := cs = [.int k x]
 len _ _ cs h := by rw [h]; rfl
 one _ _ cs h := by rw [h]; simp [Value.oneCell']
 mono _ _ _ _ _ h := h
def kStr : Kd ByteArray where
 sz := 1
 R _ x cs := cs = [.string x]
 len _ _ cs h := by rw [h]; rfl
 one _ _ cs h := by rw [h]; simp [Value.oneCell']
 mono _ _ _ _ _ h := h
def kSl {α : Type} (K : Kd α) : Kd (List α) where
 sz := 1
 R C xs cs := ∃ A c, cs = [.slice A xs.length c] ∧ Sl K C A c xs
 len _ _ cs h := by obtain ⟨A, c, h, _⟩ := h; rw [h]; rfl
 one _ _ cs h := by obtain ⟨A, c, h, _⟩ := h; rw [h]; simp [Value.oneCell']
 mono _ _ _ _ hle h := by obtain ⟨A, c, h1, h2⟩ := h; exact ⟨A, c, h1, h2.mono hle⟩

def ptrAt (A : Option Addr) (k : Nat) : Value := match A with | some a => .pointer (some (a.add k)) | none => .pointer none
theorem add_add' (a : Addr) (i j : Nat) : (a.add i).add j = a.add (i + j) := by
 unfold Addr.add
 by_cases hi : i = 0 <;> by_cases hj : j = 0 <;> simp [hi, hj, Nat.add_assoc]
theorem xAu (g o k : Nat) : (⟨g, o, none⟩ : Addr).add k = ⟨g, o + k, none⟩ := by
 unfold Addr.add
 split <;> simp_all
theorem strEq (s s' : ByteArray) : (s.toList == s'.toList) = decide (s = s') := by
 rw [ByteArray.toList_eq, ByteArray.toList_eq, Bool.eq_iff_iff]
 simp only [beq_iff_eq, decide_eq_true_eq]
 constructor
 ·intro h
  cases s; cases s'
  simp only [ByteArray.mk.injEq]
  exact Array.ext' h
 ·intro h; rw [h]
section
variable {P : Program} {ρ : Operand → Value} {d : Option Tmp} {ty : TypeId} {pos : String} {af : Array Edge} {gd : Option (Nat × Bool)} {w : World}
theorem xAs {x : Operand} : (execOp ρ ⟨d, .move x, ty, pos, af, gd⟩).run P w = .ok (.value (ρ x)) w := rfl
theorem xAo {x : Operand} : (execOp ρ ⟨d, .assign x, ty, pos, af, gd⟩).run P w = .ok (.value (ρ x)) w := rfl
theorem xAy {c a b : Operand} {t : Bool} (hc : ρ c = .bool t) : (execOp ρ ⟨d, .pick c a b, ty, pos, af, gd⟩).run P w = .ok (.value (if t then ρ a else ρ b)) w := by
 simp [execOp, hc, asBool]
theorem xAU {x : Operand} {a : Addr} (hx : ρ x = .pointer (some a)) : (execOp ρ ⟨d, .nilCheck x, ty, pos, af, gd⟩).run P w = .ok (.value (ρ x)) w := by
 simp [execOp, hx]
theorem xAg {x : Operand} {i : Nat} {vs : Array Value} {v : Value} (hx : ρ x = .tuple vs) (hv : vs[i]? = some v) : (execOp ρ ⟨d, .extract x i, ty, pos, af, gd⟩).run P w = .ok (.value v) w := by
 simp [execOp, hx, Instr.extract, hv]
theorem r_not {x : Operand} {xt : TypeId} {b : Bool} (hx : ρ x = .bool b) : (execOp ρ ⟨d, .unOp .not xt x, ty, pos, af, gd⟩).run P w = .ok (.value (.bool (!b))) w := by
 simp [execOp, hx, Op.unary]
theorem wr64 {n : Int} (h1 : -9223372036854775808 ≤ n) (h2 : n ≤ 9223372036854775807) : IntKind.i64.wrap n = n := IntWalk.i64_in n ⟨h1, h2⟩
section
variable {x y : Operand} {t t' : TypeId} {k : IntKind} {a b : Int}
theorem r_add (hx : ρ x = .int k a) (hy : ρ y = .int k b) : (execOp ρ ⟨d, .binOp .add t x y t', ty, pos, af, gd⟩).run P w = .ok (.value (.int k (k.wrap (a + b)))) w := by
 simp [execOp, hx, hy, eqGuard, binOp, Op.intArith]
theorem r_sub (hx : ρ x = .int k a) (hy : ρ y = .int k b) : (execOp ρ ⟨d, .binOp .sub t x y t', ty, pos, af, gd⟩).run P w = .ok (.value (.int k (k.wrap (a - b)))) w := by
 simp [execOp, hx, hy, eqGuard, binOp, Op.intArith]
theorem r_mul (hx : ρ x = .int k a) (hy : ρ y = .int k b) : (execOp ρ ⟨d, .binOp .mul t x y t', ty, pos, af, gd⟩).run P w = .ok (.value (.int k (k.wrap (a * b)))) w := by
 simp [execOp, hx, hy, eqGuard, binOp, Op.intArith]
theorem xAX (hx : ρ x = .int .i64 a) (hy : ρ y = .int .i64 b) (h1 : -9223372036854775808 ≤ a + b) (h2 : a + b ≤ 9223372036854775807) : (execOp ρ ⟨d, .binOp .add t x y t', ty, pos, af, gd⟩).run P w = .ok (.value (.int .i64 (a + b))) w := by
 rw [r_add hx hy, wr64 h1 h2]
theorem xAx (hx : ρ x = .int .i64 a) (hy : ρ y = .int .i64 b) (h1 : -9223372036854775808 ≤ a - b) (h2 : a - b ≤ 9223372036854775807) : (execOp ρ ⟨d, .binOp .sub t x y t', ty, pos, af, gd⟩).run P w = .ok (.value (.int .i64 (a - b))) w := by
 rw [r_sub hx hy, wr64 h1 h2]
theorem r_mulI (hx : ρ x = .int .i64 a) (hy : ρ y = .int .i64 b) (h1 : -9223372036854775808 ≤ a * b) (h2 : a * b ≤ 9223372036854775807) : (execOp ρ ⟨d, .binOp .mul t x y t', ty, pos, af, gd⟩).run P w = .ok (.value (.int .i64 (a * b))) w := by
 rw [r_mul hx hy, wr64 h1 h2]
theorem r_eql (hx : ρ x = .int k a) (hy : ρ y = .int k b) : (execOp ρ ⟨d, .binOp .eql t x y t', ty, pos, af, gd⟩).run P w = .ok (.value (.bool (decide (a = b)))) w := by
 have : (a == b) = decide (a = b) := rfl
 simp [execOp, hx, hy, eqGuard, binOp, Op.intCmp, this]
theorem r_neq (hx : ρ x = .int k a) (hy : ρ y = .int k b) : (execOp ρ ⟨d, .binOp .neq t x y t', ty, pos, af, gd⟩).run P w = .ok (.value (.bool (decide (a ≠ b)))) w := by
 have : (a != b) = decide (a ≠ b) := by simp [bne]; rfl
 simp [execOp, hx, hy, eqGuard, binOp, Op.intCmp, this]
theorem r_lss (hx : ρ x = .int k a) (hy : ρ y = .int k b) : (execOp ρ ⟨d, .binOp .lss t x y t', ty, pos, af, gd⟩).run P w = .ok (.value (.bool (decide (a < b)))) w := by
 simp [execOp, hx, hy, eqGuard, binOp, Op.intCmp]
theorem r_leq (hx : ρ x = .int k a) (hy : ρ y = .int k b) : (execOp ρ ⟨d, .binOp .leq t x y t', ty, pos, af, gd⟩).run P w = .ok (.value (.bool (decide (a ≤ b)))) w := by
 simp [execOp, hx, hy, eqGuard, binOp, Op.intCmp]
theorem r_gtr (hx : ρ x = .int k a) (hy : ρ y = .int k b) : (execOp ρ ⟨d, .binOp .gtr t x y t', ty, pos, af, gd⟩).run P w = .ok (.value (.bool (decide (b < a)))) w := by
 simp [execOp, hx, hy, eqGuard, binOp, Op.intCmp]
theorem r_geq (hx : ρ x = .int k a) (hy : ρ y = .int k b) : (execOp ρ ⟨d, .binOp .geq t x y t', ty, pos, af, gd⟩).run P w = .ok (.value (.bool (decide (b ≤ a)))) w := by
 simp [execOp, hx, hy, eqGuard, binOp, Op.intCmp]
theorem r_eqlStr {s s' : ByteArray} (hx : ρ x = .string s) (hy : ρ y = .string s') : (execOp ρ ⟨d, .binOp .eql t x y t', ty, pos, af, gd⟩).run P w = .ok (.value (.bool (decide (s = s')))) w := by
 simp [execOp, hx, hy, eqGuard, binOp, Op.stringOp, strEq]
theorem r_neqStr {s s' : ByteArray} (hx : ρ x = .string s) (hy : ρ y = .string s') : (execOp ρ ⟨d, .binOp .neq t x y t', ty, pos, af, gd⟩).run P w = .ok (.value (.bool (!decide (s = s')))) w := by
 simp [execOp, hx, hy, eqGuard, binOp, Op.stringOp, strEq]
theorem r_eqlStrB {s s' : ByteArray} {b : Bool} (hx : ρ x = .string s) (hy : ρ y = .string s') (h : decide (s = s') = b) : (execOp ρ ⟨d, .binOp .eql t x y t', ty, pos, af, gd⟩).run P w = .ok (.value (.bool b)) w := by
 rw [r_eqlStr hx hy, h]
theorem r_neqStrB {s s' : ByteArray} {b : Bool} (hx : ρ x = .string s) (hy : ρ y = .string s') (h : (!decide (s = s')) = b) : (execOp ρ ⟨d, .binOp .neq t x y t', ty, pos, af, gd⟩).run P w = .ok (.value (.bool b)) w := by
 rw [r_neqStr hx hy, h]
end
theorem xAR {x : Operand} {xt e : TypeId} {A : Option Addr} {n c : Nat} (hu : P.underlying xt = some (.slice e)) (hx : ρ x = .slice A n c) :
  (execOp ρ ⟨d, .call { callee := .builtin .len, args := #[x], argTypes := #[xt] }, ty, pos, af, gd⟩).run P w = .ok (.value (.int .i64 (n : Int))) w := by
 simp [execOp, resolve, invoke, builtin, Builtin.len_, underlying, hu, hx, goInt]
theorem xBG {x : Operand} {xt : TypeId} {s : ByteArray} (hu : P.underlying xt = some .string) (hx : ρ x = .string s) :
  (execOp ρ ⟨d, .call { callee := .builtin .len, args := #[x], argTypes := #[xt] }, ty, pos, af, gd⟩).run P w = .ok (.value (.int .i64 (s.size : Int))) w := by
 simp [execOp, resolve, invoke, builtin, Builtin.len_, underlying, hu, hx, goInt]
theorem r_min2 {x y : Operand} {ts : Array TypeId} {k : IntKind} {a b : Int} (hx : ρ x = .int k a) (hy : ρ y = .int k b) :
  (execOp ρ ⟨d, .call { callee := .builtin .min, args := #[x, y], argTypes := ts }, ty, pos, af, gd⟩).run P w = .ok (.value (.int k (min a b))) w := by
 have : (if b < a then b else a) = min a b := by omega
 simp [execOp, resolve, invoke, builtin, Builtin.min_, Builtin.min2, hx, hy, this]
theorem r_max2 {x y : Operand} {ts : Array TypeId} {k : IntKind} {a b : Int} (hx : ρ x = .int k a) (hy : ρ y = .int k b) :
  (execOp ρ ⟨d, .call { callee := .builtin .max, args := #[x, y], argTypes := ts }, ty, pos, af, gd⟩).run P w = .ok (.value (.int k (max a b))) w := by
 have : (if b > a then b else a) = max a b := by omega
 simp [execOp, resolve, invoke, builtin, Builtin.max_, Builtin.max2, hx, hy, this]
theorem xAJ {x ix : Operand} {t e : TypeId} {k : IntKind} {A : Option Addr} {n c sz : Nat} {i : Int} (hu : P.underlying t = some (.slice e)) (hs : ∀ w, (sizeOf e).run P w = .ok sz w)
  (hx : ρ x = .slice A n c) (hi : ρ ix = .int k i) (hA : A.isSome = true) (h0 : 0 ≤ i) (h1 : i < n) :
  (execOp ρ ⟨d, .indexAddr t x ix, ty, pos, af, gd⟩).run P w = .ok (.value (ptrAt A (i.toNat * sz))) w := by
 obtain ⟨a, rfl⟩ := Option.isSome_iff_exists.1 hA
 simp [execOp, Instr.indexAt, asIntOf, underlying, hu, hx, hi, h0, h1, hs, ptrAt]
theorem r_fieldAddr {x : Operand} {t : TypeId} {f sz : Nat} {a : Addr} {fs : Array Field} {fl : Field} (hu : P.underlying t = some (.struct fs)) (hf : fs[f]? = some fl) (hs : ∀ w, (sizeOf fl.type).run P w = .ok sz w) (hz' : Nat.blt 0 sz = true)
  (hx : ρ x = .pointer (some a)) : (execOp ρ ⟨d, .fieldAddr t x f, ty, pos, af, gd⟩).run P w = .ok (.value (.pointer (some (a.add fl.offset)))) w := by
 have hz := lt_of_blt hz'
 have : ¬ sz = 0 := by omega
 simp [execOp, Instr.fieldAt, underlying, hu, hf, hx, Instr.sureAddr, fieldPlace, hs, this]
theorem xAB {x : Operand} {t : TypeId} {f sz g o off o' : Nat} {fs : Array Field} {fl : Field} (hu : P.underlying t = some (.struct fs)) (hf : fs[f]? = some fl) (hs : ∀ w, (sizeOf fl.type).run P w = .ok sz w) (hz' : Nat.blt 0 sz = true) (hoff : fl.offset = off) (ho : o + off = o')
  (hx : ρ x = .pointer (some ⟨g, o, none⟩)) : (execOp ρ ⟨d, .fieldAddr t x f, ty, pos, af, gd⟩).run P w = .ok (.value (.pointer (some ⟨g, o', none⟩))) w := by
 subst hoff ho
 rw [r_fieldAddr hu hf hs hz' hx, xAu]
theorem xAZ {x : Operand} {t : TypeId} {f sz k : Nat} {A : Option Addr} {fs : Array Field} {fl : Field} (hu : P.underlying t = some (.struct fs)) (hf : fs[f]? = some fl) (hs : ∀ w, (sizeOf fl.type).run P w = .ok sz w) (hz' : Nat.blt 0 sz = true) {off k' : Nat} (hoff : fl.offset = off) (hk : k + off = k')
  (hA : A.isSome = true) (hx : ρ x = ptrAt A k) : (execOp ρ ⟨d, .fieldAddr t x f, ty, pos, af, gd⟩).run P w = .ok (.value (ptrAt A k')) w := by
 subst hoff hk
 obtain ⟨a, rfl⟩ := Option.isSome_iff_exists.1 hA
 have := r_fieldAddr (P := P) (d := d) (ty := ty) (pos := pos) (af := af) (gd := gd) (w := w) hu hf hs hz' hx
 rw [this, add_add']
 rfl
theorem xAV {x : Operand} {t : TypeId} {a : Addr} {v : Value} (ha : ∀ w, (isAgg t).run P w = .ok false w) (hx : ρ x = .pointer (some a)) (hc : w.cell? a = some v) :
  (execOp ρ ⟨d, .load t x, ty, pos, af, gd⟩).run P w = .ok (.value v) w := by
 simp [execOp, Instr.loadAt, Instr.sureAddr, loadVar, ha, hx, hc]
theorem r_loadN {x : Operand} {t : TypeId} {a : Addr} {cs : List Value} (ha : ∀ w, (isAgg t).run P w = .ok true w) (hs : ∀ w, (sizeOf t).run P w = .ok cs.length w) (hx : ρ x = .pointer (some a))
  (hc : ∀ j v, cs[j]? = some v → w.cell? (a.add j) = some v) : (execOp ρ ⟨d, .load t x, ty, pos, af, gd⟩).run P w = .ok (.value (.agg cs.toArray)) w := by
 simp [execOp, Instr.loadAt, Instr.sureAddr, loadVar, ha, hs, hx, run_loadCells_list w a cs hc]
theorem xAv {x : Operand} {t : TypeId} {C : Gh} {A : Option Addr} {k i : Nat} {cs : List Value} {v : Value} (ha : ∀ w, (isAgg t).run P w = .ok false w) (hC : CellsG C A k cs) (hi : cs[i]? = some v)
  (hx : ρ x = ptrAt A (k + i)) (hH : Has w C) : (execOp ρ ⟨d, .load t x, ty, pos, af, gd⟩).run P w = .ok (.value v) w := by
 obtain ⟨g, o, rfl, hs⟩ := hC
 refine xAV ha (a := ⟨g, o + (k + i), none⟩) (by rw [hx]; simp [ptrAt, xAu]) (hH _ _ _ ?_)
 have := hs i v hi
 rwa [Nat.add_assoc] at this
theorem xAp {x : Operand} {t : TypeId} {C : Gh} {A : Option Addr} {k : Nat} {cs : List Value} (ha : ∀ w, (isAgg t).run P w = .ok true w) (hs : ∀ w, (sizeOf t).run P w = .ok cs.length w) (hC : CellsG C A k cs)
  (hx : ρ x = ptrAt A k) (hH : Has w C) : (execOp ρ ⟨d, .load t x, ty, pos, af, gd⟩).run P w = .ok (.value (.agg cs.toArray)) w := by
 obtain ⟨g, o, rfl, hseg⟩ := hC
 refine r_loadN ha hs (a := ⟨g, o + k, none⟩) (by rw [hx]; simp [ptrAt, xAu]) fun j v hj => ?_
 rw [xAu]
 exact hH _ _ _ (hseg j v hj)
theorem r_field1 {x : Operand} {t : TypeId} {f : Nat} {fs : Array Field} {fl : Field} {cs : Array Value} {v : Value} (hu : P.underlying t = some (.struct fs)) (hf : fs[f]? = some fl) (ha : ∀ w, (isAgg fl.type).run P w = .ok false w) (hx : ρ x = .agg cs) (hv : cs[fl.offset]? = some v) :
  (execOp ρ ⟨d, .field t x f, ty, pos, af, gd⟩).run P w = .ok (.value v) w := by
 simp [execOp, Instr.field, underlying, hu, hf, hx, asAgg, part, ha, hv]
theorem bt_lt (s : ByteArray) (i : Nat) (h : i < s.size) : s[i]? = some s[i] := by simp [h]
theorem r_indexStr {x ix : Operand} {t : TypeId} {k : IntKind} {i : Int} {s : ByteArray} {b : UInt8} (hu : P.underlying t = some .string) (hx : ρ x = .string s) (hi : ρ ix = .int k i) (h0 : 0 ≤ i) (hb : s[i.toNat]? = some b) :
  (execOp ρ ⟨d, .index t x ix, ty, pos, af, gd⟩).run P w = .ok (.value (.int .u8 (b.toNat : Int))) w := by
 simp [execOp, Instr.index, asIntOf, underlying, hu, hx, hi, h0, hb]
theorem r_build {t : TypeId} {parts : Array (Nat × Operand)} {cells : Array Value} (h : P.built t (parts.map fun (i, x) => (i, ρ x)).toList = some cells) :
  (execOp ρ ⟨d, .build t parts, ty, pos, af, gd⟩).run P w = .ok (.value (.agg cells)) w := by
 simp [execOp, run_build w t _ cells h]
end
end Go.Proofs.YtlofomkhiefbmaaGreatDoor

namespace Go.Proofs.YtlofomkhiefbmaaGreatDoor
open Go.RowKit

structure St (w : World) (C : Gh) (g : Nat) (cs : List Value) (t : TypeId) : Prop where
 blk : w.heap[g]? = some (.cells cs.toArray t (0, 0))
 un : ∀ o, C g o = none
theorem blk_lt' {w : World} {g : Nat} {o : Obj} (h : w.heap[g]? = some o) : g < w.heap.size := (Array.getElem?_eq_some_iff.1 h).1
theorem St.lt {w : World} {C : Gh} {g : Nat} {cs : List Value} {t : TypeId} (h : St w C g cs t) : g < w.heap.size := blk_lt' h.blk
theorem St.ext {B : Nat} {w w' : World} {C C' : Gh} {g : Nat} {cs : List Value} {t : TypeId} (h : St w C g cs t) (e : Ext B w C w' C') (hg : g < B) : St w' C' g cs t :=
 ⟨(e.below.block g hg).trans h.blk, fun o => (e.old g o hg).trans (h.un o)⟩
theorem St.call {w w' : World} {C C' : Gh} {g : Nat} {cs : List Value} {t : TypeId} (h : St w C g cs t) (e : Ext w.heap.size w C w' C') : St w' C' g cs t := h.ext e h.lt
theorem St.drew {w : World} {C : Gh} {g : Nat} {cs : List Value} {t : TypeId} (h : St w C g cs t) : St w.drew C g cs t := ⟨h.blk, h.un⟩
theorem St.cell {w : World} {C : Gh} {g : Nat} {cs : List Value} {t : TypeId} (h : St w C g cs t) {o : Nat} {v : Value} (hv : cs[o]? = some v) : w.cell? ⟨g, o, none⟩ = some v := by
 simp [World.cell?, h.blk, hv]
theorem St.cellB {w w' : World} {C : Gh} {g : Nat} {cs : List Value} {t : TypeId} (h : St w C g cs t) (hb : Below w.heap.size w w') {o : Nat} {v : Value} (hv : cs[o]? = some v) : w'.cell? ⟨g, o, none⟩ = some v := by
 rw [hb.cell (p := ⟨g, o, none⟩) h.lt]
 exact h.cell hv

structure Mut (g : Nat) (w : World) (C : Gh) (w' : World) (C' : Gh) : Prop where
 grown : w.grownBy w' (some g)
 has : Has w' C'
 le : Gle C C'
 old : ∀ k o, k < w.heap.size → k ≠ g → C' k o = C k o
theorem Mut.ext {B g : Nat} {w w' : World} {C C' : Gh} (m : Mut g w C w' C') (hB : B ≤ w.heap.size) (hg : B ≤ g) : Ext B w C w' C' :=
 ⟨⟨m.grown.os, m.grown.tape, m.grown.output, m.grown.size, fun k hk => m.grown.block k (by omega) (by simp; omega)⟩, m.has, m.le, fun k o hk => m.old k o (by omega) (by omega)⟩
theorem St.other {g g' : Nat} {w w' : World} {C C' : Gh} {cs : List Value} {t : TypeId} (h : St w C g cs t) (m : Mut g' w C w' C') (hne : g ≠ g') : St w' C' g cs t :=
 ⟨(m.grown.block g h.lt (by simp; exact hne)).trans h.blk, fun o => (m.old g o h.lt hne).trans (h.un o)⟩
theorem Mut.size {g : Nat} {w w' : World} {C C' : Gh} (m : Mut g w C w' C') : w.heap.size ≤ w'.heap.size := m.grown.size

section
variable {P : Program} {ρ : Operand → Value} {d : Option Tmp} {ty : TypeId} {pos : String} {af : Array Edge} {gd : Option (Nat × Bool)} {w : World}

theorem alloc_ext {w : World} {C : Gh} (hH : Has w C) (o : Obj) : Ext w.heap.size w C (w.alloc o) C := (Ext.refl hH).alloc (Nat.le_refl _) o
theorem alloc_st {w : World} {C : Gh} (hH : Has w C) (cs : List Value) (t : TypeId) : St (w.alloc (.cells cs.toArray t)) C w.heap.size cs t :=
 ⟨heap_alloc_new w _, fun o => hH.none o (Nat.le_refl _)⟩
theorem r_alloc {t : TypeId} {v : Value} (hz : ∀ w, (zeroValue t).run P w = .ok v w) : (execOp ρ ⟨d, .alloc t, ty, pos, af, gd⟩).run P w = .ok (.value (.pointer (some ⟨w.heap.size, 0, none⟩))) (w.alloc (.cells v.cells t)) := by
 simp [execOp, Instr.alloc, hz, newVar, newRow]
theorem r_box {t : TypeId} {x : Operand} {v : Value} (hx : ρ x = v) : (execOp ρ ⟨d, .box t x, ty, pos, af, gd⟩).run P w = .ok (.value (.pointer (some ⟨w.heap.size, 0, none⟩))) (w.alloc (.cells v.cells t)) := by
 simp [execOp, Instr.box, hx, newVar, newRow]
theorem new_alloc {t : TypeId} {v : Value} {cs : List Value} {C : Gh} (hz : ∀ w, (zeroValue t).run P w = .ok v w) (hcs : v.cells = cs.toArray) (hH : Has w C) :
  ∃ g w', (execOp ρ ⟨d, .alloc t, ty, pos, af, gd⟩).run P w = .ok (.value (.pointer (some ⟨g, 0, none⟩))) w' ∧ St w' C g cs t ∧ Ext w.heap.size w C w' C ∧ w.heap.size = g :=
 ⟨_, _, r_alloc hz, by rw [hcs]; exact alloc_st hH _ _, alloc_ext hH _, rfl⟩
theorem new_box {t : TypeId} {x : Operand} {v : Value} {cs : List Value} {C : Gh} (hx : ρ x = v) (hcs : v.cells = cs.toArray) (hH : Has w C) :
  ∃ g w', (execOp ρ ⟨d, .box t x, ty, pos, af, gd⟩).run P w = .ok (.value (.pointer (some ⟨g, 0, none⟩))) w' ∧ St w' C g cs t ∧ Ext w.heap.size w C w' C ∧ w.heap.size = g :=
 ⟨_, _, r_box hx, by rw [hcs]; exact alloc_st hH _ _, alloc_ext hH _, rfl⟩

theorem setRow_at {w : World} {g : Nat} {cur : Array Value} {t : TypeId} {fr : Nat × Nat} (h : w.heap[g]? = some (.cells cur t fr)) (cs : Array Value) : (w.setRow g cs).heap[g]? = some (.cells cs t fr) := by
 simp [World.setRow, Array.getElem?_modify, h]
theorem setRow_ne {w : World} {g k : Nat} (h : k ≠ g) (cs : Array Value) : (w.setRow g cs).heap[k]? = w.heap[k]? := by
 simp only [World.setRow, Array.getElem?_modify]
 rw [if_neg (fun e => h e.symm)]
theorem setRow_grown (w : World) (g : Nat) (cs : Array Value) : w.grownBy (w.setRow g cs) (some g) :=
 ⟨rfl, rfl, rfl, by simp [World.setRow], fun k _ hne => setRow_ne (fun e => hne (by rw [e])) cs⟩
theorem setRow_mut {w : World} {C : Gh} {g : Nat} {cs0 cs : List Value} {t : TypeId} (h : St w C g cs0 t) (hH : Has w C) : Mut g w C (w.setRow g cs.toArray) C ∧ St (w.setRow g cs.toArray) C g cs t := by
 refine ⟨⟨setRow_grown _ _ _, fun b o v e => ?_, Gle.refl _, fun _ _ _ _ => rfl⟩, ⟨setRow_at h.blk _, h.un⟩⟩
 by_cases hb : b = g
 ·subst hb
  rw [h.un o] at e
  cases e
 ·rw [World.cell?_of_block (w := w) (setRow_ne hb _)]
  exact hH b o v e
def putAt (cs : List Value) (o : Nat) (vs : List Value) : List Value := cs.take o ++ vs ++ cs.drop (o + vs.length)
theorem r_storeSt {t ts : TypeId} {x p : Operand} {C : Gh} {g o n : Nat} {cs vs : List Value} {v : Value} (hs : ∀ w, (sizeOf t).run P w = .ok n w) (hn : vs.length = n) (hst : St w C g cs ts) (hH : Has w C)
  (hp : ρ p = .pointer (some ⟨g, o, none⟩)) (hx : ρ x = v) (hv : v.cells = vs.toArray) (h1 : (vs.all fun u => u.oneCell') = true) (hl : o + vs.length ≤ cs.length) :
  ∃ w', (execOp ρ ⟨d, .store t p x, ty, pos, af, gd⟩).run P w = .ok .skip w' ∧ Mut g w C w' C ∧ St w' C g (putAt cs o vs) ts := by
 have h1' : ∀ u ∈ vs, u.oneCell' = true := by simpa using h1
 have hrun := run_storeCells_at P g o ts vs 0 cs.toArray w hst.blk (by simpa using hl) h1'
 refine ⟨w.setRow g (putAt cs o vs).toArray, ?_, setRow_mut hst hH⟩
 have hv' : v.cells.toList = vs := by rw [hv]
 have hsz : v.cells.size = n := by rw [hv]; simpa using hn
 simp only [execOp, Instr.storeAt, Instr.sureAddr, hp, hx, storeVar, Sem.run_bind, Sem.run_pure, Result.andThen_ok, hs, hsz, hv']
 simp [hrun, putAt]

def commit (C : Gh) (g o : Nat) (cs : List Value) : Gh := fun b k => if b = g ∧ o ≤ k ∧ k < o + cs.length then cs[k - o]? else C b k
theorem commit_seg (C : Gh) (g o : Nat) (cs : List Value) : Seg (commit C g o cs) g o cs := fun i v h => by
 have hi : i < cs.length := (List.getElem?_eq_some_iff.1 h).1
 simp only [commit]
 rw [if_pos ⟨trivial, by omega, by omega⟩, show o + i - o = i by omega]
 exact h
theorem commit_le {C : Gh} {g o : Nat} {cs : List Value} (h : ∀ k, o ≤ k → k < o + cs.length → C g k = none) : Gle C (commit C g o cs) := fun b k v e => by
 simp only [commit]
 rw [if_neg]
 ·exact e
 ·rintro ⟨rfl, h1, h2⟩
  rw [h k h1 h2] at e
  cases e
theorem commit_ne (C : Gh) {g b : Nat} (o : Nat) (cs : List Value) (h : b ≠ g) (k : Nat) : commit C g o cs b k = C b k := by
 simp [commit, h]
theorem commit_has {w : World} {C : Gh} {g o : Nat} {cs : List Value} (hH : Has w C) (hc : ∀ i v, cs[i]? = some v → w.cell? ⟨g, o + i, none⟩ = some v) : Has w (commit C g o cs) := fun b k v e => by
 simp only [commit] at e
 split at e
 ·rename_i h
  obtain ⟨rfl, h1, h2⟩ := h
  have := hc _ _ e
  rwa [show o + (k - o) = k by omega] at this
 ·exact hH b k v e
inductive RowR {α : Type} (K : Kd α) (C : Gh) : List α → List Value → Prop where
 | nil : RowR K C [] []
 | cons {x : α} {xs : List α} {cs ds : List Value} (h : K.R C x cs) (t : RowR K C xs ds) : RowR K C (x :: xs) (cs ++ ds)
theorem RowR.len {α : Type} {K : Kd α} {C : Gh} {xs : List α} {cs : List Value} (h : RowR K C xs cs) : cs.length = xs.length * K.sz := by
 induction h with
 | nil => simp
 | cons h t ih => rw [List.length_append, K.len _ _ _ h, ih, List.length_cons, Nat.succ_mul]; omega
theorem RowR.one {α : Type} {K : Kd α} {C : Gh} {xs : List α} {cs : List Value} (h : RowR K C xs cs) : ∀ v ∈ cs, v.oneCell' = true := by
 induction h with
 | nil => simp
 | cons h t ih => intro v hv; rcases List.mem_append.1 hv with hv | hv; exact K.one _ _ _ h v hv; exact ih v hv
theorem RowR.mono {α : Type} {K : Kd α} {C C' : Gh} {xs : List α} {cs : List Value} (h : RowR K C xs cs) (hle : Gle C C') : RowR K C' xs cs := by
 induction h with
 | nil => exact .nil
 | cons h t ih => exact .cons (K.mono _ _ _ _ hle h) ih
theorem RowR.app {α : Type} {K : Kd α} {C : Gh} {xs ys : List α} {cs ds : List Value} (h : RowR K C xs cs) (k : RowR K C ys ds) : RowR K C (xs ++ ys) (cs ++ ds) := by
 induction h with
 | nil => exact k
 | cons h t ih => rw [List.cons_append, List.append_assoc]; exact .cons h ih
theorem Seg.left {C : Gh} {g o : Nat} {cs ds : List Value} (h : Seg C g o (cs ++ ds)) : Seg C g o cs := fun i v e => h i v (by
 have hi : i < cs.length := (List.getElem?_eq_some_iff.1 e).1
 rw [List.getElem?_append_left hi]; exact e)
theorem Seg.right {C : Gh} {g o : Nat} {cs ds : List Value} (h : Seg C g o (cs ++ ds)) : Seg C g (o + cs.length) ds := fun i v e => by
 have := h (cs.length + i) v (by rw [List.getElem?_append_right (by omega), show cs.length + i - cs.length = i by omega]; exact e)
 rwa [← Nat.add_assoc] at this
theorem Seg.app {C : Gh} {g o : Nat} {cs ds : List Value} (h : Seg C g o cs) (k : Seg C g (o + cs.length) ds) : Seg C g o (cs ++ ds) := fun i v e => by
 by_cases hi : i < cs.length
 ·exact h i v (by rwa [List.getElem?_append_left hi] at e)
 ·rw [List.getElem?_append_right (by omega)] at e
  have := k _ v e
  rwa [show o + cs.length + (i - cs.length) = o + i by omega] at this
theorem RowR.at_ {α : Type} {K : Kd α} {C : Gh} {xs : List α} {cs : List Value} (h : RowR K C xs cs) : ∀ (g o : Nat), Seg C g o cs → ∀ j x, xs[j]? = some x → ∃ ds, K.R C x ds ∧ Seg C g (o + j * K.sz) ds := by
 induction h with
 | nil => intro g o _ j x e; simp at e
 | cons h t ih =>
  rename_i x0 xs0 c0 d0
  intro g o hs j x e
  cases j with
  | zero =>
   simp only [List.getElem?_cons_zero, Option.some.injEq] at e
   subst e
   exact ⟨_, h, by simpa using hs.left⟩
  | succ j =>
   simp only [List.getElem?_cons_succ] at e
   obtain ⟨ds, h1, h2⟩ := ih g _ hs.right j x e
   refine ⟨ds, h1, ?_⟩
   rw [K.len _ _ _ h] at h2
   rwa [show o + (j + 1) * K.sz = o + K.sz + j * K.sz by rw [Nat.succ_mul]; omega]
theorem Sl.of_row {α : Type} {K : Kd α} {C : Gh} {g o c : Nat} {xs : List α} {cs : List Value} (h : RowR K C xs cs) (hs : Seg C g o cs) (hl : xs.length ≤ c) (hb : xs.length ≤ 140737488355328) : Sl K C (some ⟨g, o, none⟩) c xs :=
 ⟨hl, hb, fun j x e => let ⟨ds, h1, h2⟩ := h.at_ g o hs j x e; ⟨ds, h1, g, o, rfl, h2⟩⟩
theorem Sl.rowTake {α : Type} {K : Kd α} {C : Gh} {A : Option Addr} {c : Nat} {xs : List α} (h : Sl K C A c xs) : ∀ n, n ≤ xs.length → ∃ cs, RowR K C (xs.take n) cs ∧ (0 < n → ∃ g o, A = some ⟨g, o, none⟩ ∧ Seg C g o cs) := by
 intro n
 induction n with
 | zero => intro _; exact ⟨[], by simpa using RowR.nil, fun h => by simp at h⟩
 | succ n ih =>
  intro hn
  obtain ⟨cs, h1, h2⟩ := ih (by omega)
  obtain ⟨x, hx⟩ : ∃ x, xs[n]? = some x := ⟨xs[n], by simp [show n < xs.length by omega]⟩
  obtain ⟨ds, h3, g, o, hA, h4⟩ := h.at_ n x hx
  have ht : xs.take (n + 1) = xs.take n ++ [x] := by rw [List.take_add_one, hx]; rfl
  refine ⟨cs ++ ds, by rw [ht]; simpa using h1.app (.cons h3 .nil), fun _ => ⟨g, o, hA, ?_⟩⟩
  rcases Nat.eq_zero_or_pos n with h0 | h0
  ·subst h0
   simp only [List.take_zero] at h1
   cases h1
   simpa using h4
  ·obtain ⟨g', o', hA', h5⟩ := h2 h0
   rw [hA] at hA'
   simp only [Option.some.injEq, Addr.mk.injEq] at hA'
   obtain ⟨rfl, rfl, _⟩ := hA'
   refine h5.app ?_
   rw [h1.len, List.length_take, Nat.min_eq_left (by omega)]
   exact h4
theorem Sl.row {α : Type} {K : Kd α} {C : Gh} {A : Option Addr} {c : Nat} {xs : List α} (h : Sl K C A c xs) : ∃ cs, RowR K C xs cs ∧ (0 < xs.length → ∃ g o, A = some ⟨g, o, none⟩ ∧ Seg C g o cs) := by
 have := h.rowTake xs.length (Nat.le_refl _)
 rwa [List.take_length] at this
end
end Go.Proofs.YtlofomkhiefbmaaGreatDoor

namespace Go.Proofs.YtlofomkhiefbmaaGreatDoor
open Go.RowKit

structure Own (B e sz : Nat) (w : World) (C : Gh) (A : Option Addr) (n c : Nat) : Prop where
 le : n ≤ c
 sp : n < c → ∃ g o cs, A = some ⟨g, o, none⟩ ∧ B ≤ g ∧ w.heap[g]? = some (.cells cs e (0, 0)) ∧ o + c * sz ≤ cs.size ∧ ∀ k, o + n * sz ≤ k → k < o + c * sz → C g k = none
theorem Own.full {B e sz : Nat} {w : World} {C : Gh} {A : Option Addr} {n : Nat} : Own B e sz w C A n n := ⟨Nat.le_refl _, fun h => by omega⟩
theorem Own.nil {B e sz : Nat} {w : World} {C : Gh} : Own B e sz w C none 0 0 := Own.full
theorem Own.call {B e sz : Nat} {w w' : World} {C C' : Gh} {A : Option Addr} {n c : Nat} (h : Own B e sz w C A n c) (x : Ext w.heap.size w C w' C') : Own B e sz w' C' A n c :=
 ⟨h.le, fun hl => let ⟨g, o, cs, h1, h2, h3, h4, h5⟩ := h.sp hl; ⟨g, o, cs, h1, h2, (x.below.block g (blk_lt' h3)).trans h3, h4, fun k k1 k2 => (x.old g k (blk_lt' h3)).trans (h5 k k1 k2)⟩⟩
theorem Own.drew {B e sz : Nat} {w : World} {C : Gh} {A : Option Addr} {n c : Nat} (h : Own B e sz w C A n c) : Own B e sz w.drew C A n c := ⟨h.le, h.sp⟩
theorem Own.lower {B B' e sz : Nat} {w : World} {C : Gh} {A : Option Addr} {n c : Nat} (h : Own B e sz w C A n c) (hB : B' ≤ B) : Own B' e sz w C A n c :=
 ⟨h.le, fun hl => let ⟨g, o, cs, h1, h2, h3⟩ := h.sp hl; ⟨g, o, cs, h1, by omega, h3⟩⟩
def Nb (A : Option Addr) (n c g : Nat) : Prop := n < c → ∀ a, A = some a → a.block ≠ g
theorem Own.nb {B e sz : Nat} {w : World} {C : Gh} {A : Option Addr} {n c g : Nat} (h : Own B e sz w C A n c) (hg : w.heap.size ≤ g) : Nb A n c g := fun hl a ha => by
 obtain ⟨g', o, cs, h1, _, h3, _⟩ := h.sp hl
 have := blk_lt' h3
 rw [h1] at ha
 cases ha
 simp
 omega
theorem Nb.full {A : Option Addr} {n g : Nat} : Nb A n n g := fun h => by omega
structure App (A : Option Addr) (n c : Nat) (w : World) (C : Gh) (A' : Option Addr) (n' c' : Nat) (w' : World) (C' : Gh) : Prop where
 size : w.heap.size ≤ w'.heap.size
 oth : ∀ k, k < w.heap.size → Nb A n c k → w'.heap[k]? = w.heap[k]? ∧ ∀ o, C' k o = C k o
 nb : ∀ k, k < w.heap.size → Nb A n c k → Nb A' n' c' k
theorem St.app {w w' : World} {C C' : Gh} {g : Nat} {cs : List Value} {t : TypeId} {A A' : Option Addr} {n c n' c' : Nat} (h : St w C g cs t) (m : App A n c w C A' n' c' w' C') (hn : Nb A n c g) : St w' C' g cs t :=
 ⟨((m.oth g h.lt hn).1).trans h.blk, fun o => ((m.oth g h.lt hn).2 o).trans (h.un o)⟩
def Nb2 (A : Option Addr) (n c : Nat) (A2 : Option Addr) (n2 c2 : Nat) : Prop := n2 < c2 → ∀ a, A2 = some a → Nb A n c a.block
theorem Own.app {B e sz : Nat} {w w' : World} {C C' : Gh} {A A' A2 : Option Addr} {n c n' c' n2 c2 : Nat} (h : Own B e sz w C A2 n2 c2) (m : App A n c w C A' n' c' w' C') (hn : Nb2 A n c A2 n2 c2) : Own B e sz w' C' A2 n2 c2 :=
 ⟨h.le, fun hl => let ⟨g, o, cs, h1, h2, h3, h4, h5⟩ := h.sp hl
  have hx := m.oth g (blk_lt' h3) (hn hl _ h1)
  ⟨g, o, cs, h1, h2, hx.1.trans h3, h4, fun k k1 k2 => (hx.2 k).trans (h5 k k1 k2)⟩⟩

section
variable {P : Program} {ρ : Operand → Value} {d : Option Tmp} {ty : TypeId} {pos : String} {af : Array Edge} {gd : Option (Nat × Bool)} {w : World}

theorem new_lit {α : Type} {K : Kd α} {C : Gh} {t e len : Nat} {parts : Array (Nat × Operand)} {xs : List α} {cs : List Value} {ie : TypeInfo} {z : Value} (hu : P.underlying t = some (.slice e)) (hie : P.info? e = some ie) (hz : ie.zero = some z)
  (hsmall : (Nat.ble (len * ie.size) 16777216 && Nat.blt 0 (len * ie.size)) = true)
  (hf : Instr.fill (fun i => some (i * ie.size, ie.size)) ((Array.range (len * ie.size)).map (z.cells[· % z.cells.size]!)) (parts.map fun (i, x) => (i, ρ x)).toList = some cs.toArray)
  (hr : RowR K C xs cs) (hl : xs.length = len) (hH : Has w C) :
  ∃ A w' C', (execOp ρ ⟨d, .buildSlice t len parts, ty, pos, af, gd⟩).run P w = .ok (.value (.slice A len len)) w' ∧ Sl K C' A len xs ∧ Ext w.heap.size w C w' C' ∧ CellsG C' A 0 cs := by
 simp only [Bool.and_eq_true] at hsmall
 have h1 := Nat.le_of_ble_eq_true hsmall.1
 have h2 := lt_of_blt hsmall.2
 have hb : len ≤ 16777216 := by
  rcases Nat.eq_zero_or_pos ie.size with h0 | h0
  ·rw [h0] at h2; simp at h2
  ·exact Nat.le_trans (Nat.le_mul_of_pos_right _ h0) h1
 refine ⟨some ⟨w.heap.size, 0, none⟩, w.alloc (.cells cs.toArray e), commit C w.heap.size 0 cs, ?_, ?_, ?_, ⟨_, _, rfl, commit_seg _ _ _ _⟩⟩
 ·simp only [execOp, Sem.run_bind, run_buildSlice w t e len _ cs.toArray ie z hu hie hz (by omega) (by omega) hf, Result.andThen_ok, Sem.run_pure]
 ·have hle : Gle C (commit C w.heap.size 0 cs) := commit_le fun k _ _ => hH.none k (Nat.le_refl _)
  exact Sl.of_row (hr.mono hle) (commit_seg _ _ _ _) (by omega) (by omega)
 ·have hle : Gle C (commit C w.heap.size 0 cs) := commit_le fun k _ _ => hH.none k (Nat.le_refl _)
  refine ⟨(Below.refl _ w).alloc (Nat.le_refl _) _, commit_has (alloc_ext hH _).has fun i v hi => ?_, hle, fun b o hb => commit_ne _ _ _ (by omega) _⟩
  have hn := heap_alloc_new w (.cells cs.toArray e)
  simp only [World.cell?, hn, Nat.zero_add]
  simpa using hi

theorem run_append_zero (t ty e : TypeId) (i : TypeInfo) (ht : P.underlying t = some (.slice e)) (hi : P.info? e = some i) (A A2 : Option Addr) (n c c2 : Nat) (hle : n ≤ c) :
  (Builtin.append_ #[t, t] ty #[.slice A n c, .slice A2 0 c2]).run P w = .ok (.slice A n c) w := by
 cases A <;> cases A2 <;> simp [Builtin.append_, run_underlying ht, sizeOf, typeInfo, hi, Builtin.lenOf, Builtin.firstCells, loadCells, loadCellsFrom, storeCells, hle]

theorem run_append_in (t ty e : TypeId) (i : TypeInfo) (ht : P.underlying t = some (.slice e)) (hi : P.info? e = some i)
  (g o sLen sCap : Nat) (cur : Array Value) (hg : w.heap[g]? = some (.cells cur e (0, 0)))
  (a : Addr) (m c : Nat) (news : List Value) (hl : news.length = m * i.size) (hnews : ∀ j u, news[j]? = some u → w.cell? (a.add j) = some u) (h1 : ∀ u ∈ news, u.oneCell' = true)
  (hroom : sLen + m ≤ sCap) (hfit : o + sLen * i.size + news.length ≤ cur.size) :
  (Builtin.append_ #[t, t] ty #[.slice (some ⟨g, o, none⟩) sLen sCap, .slice (some a) m c]).run P w =
   .ok (.slice (some ⟨g, o, none⟩) (sLen + m) sCap) (w.setRow g (cur.toList.take (o + sLen * i.size) ++ news ++ cur.toList.drop (o + sLen * i.size + news.length)).toArray) := by
 have hf := run_firstCells_some (P := P) w i.size m a m c news hl hnews
 have hst := run_storeCells_at P g (o + sLen * i.size) e news 0 cur w hg (by simpa using hfit) h1
 simp only [Nat.add_zero] at hst
 simp [Builtin.append_, run_underlying ht, sizeOf, typeInfo, hi, Builtin.lenOf, hroom, hf, Addr.add_lit, hst]

theorem app_law {α : Type} {K : Kd α} {C : Gh} {B e t ty : Nat} {i : TypeInfo} {z : Value} {sz bytes : Nat} {A A2 : Option Addr} {c c2 : Nat} {xs ys : List α}
  (ht : P.underlying t = some (.slice e)) (hi : P.info? e = some i) (hz : i.zero = some z) (hsz : i.size = sz) (hby : i.bytes = bytes) (hzs : z.cells.size = sz) (hpos : Nat.blt 0 sz = true) (hK : K.sz = sz)
  (h1 : Sl K C A c xs) (ho : Own B e sz w C A xs.length c) (h2 : Sl K C A2 c2 ys) (hH : Has w C) (hB : B ≤ w.heap.size) (hb : (xs.length + ys.length) * bytes ≤ 140737488355328) (hlen : xs.length + ys.length ≤ 140737488355328) :
  ∃ A' c' w' C', (Builtin.append_ #[t, t] ty #[.slice A xs.length c, .slice A2 ys.length c2]).run P w = .ok (.slice A' (xs ++ ys).length c') w' ∧ Sl K C' A' c' (xs ++ ys) ∧ Own B e sz w' C' A' (xs ++ ys).length c' ∧
   Ext B w C w' C' ∧ App A xs.length c w C A' (xs ++ ys).length c' w' C' := by
 have hp := lt_of_blt hpos
 rcases Nat.eq_zero_or_pos ys.length with h0 | h0
 ·have : ys = [] := List.eq_nil_of_length_eq_zero h0
  subst this
  refine ⟨A, c, w, C, ?_, by simpa using h1, by simpa using ho, Ext.refl hH, ⟨Nat.le_refl _, fun k _ _ => ⟨rfl, fun _ => rfl⟩, fun k _ hn => by simpa using hn⟩⟩
  have := run_append_zero (P := P) (w := w) t ty e i ht hi A A2 xs.length c c2 h1.le
  simpa using this
 ·obtain ⟨news, hr2, hs2⟩ := h2.row
  obtain ⟨g2, o2, rfl, hseg2⟩ := hs2 h0
  have hnl : news.length = ys.length * sz := by rw [hr2.len, hK]
  have hnews : ∀ j u, news[j]? = some u → w.cell? ((⟨g2, o2, none⟩ : Addr).add j) = some u := fun j u hj => by rw [xAu]; exact hH _ _ _ (hseg2 j u hj)
  by_cases hroom : xs.length + ys.length ≤ c
  ·-- in place
   obtain ⟨g, o, cur, rfl, hBg, hg, hfit, hfree⟩ := ho.sp (by omega)
   have hfit' : o + xs.length * sz + news.length ≤ cur.size := by
    have : (xs.length + ys.length) * sz ≤ c * sz := Nat.mul_le_mul_right _ hroom
    rw [Nat.add_mul] at this
    omega
   have hrun := run_append_in (P := P) (w := w) t ty e i ht hi g o xs.length c cur hg ⟨g2, o2, none⟩ ys.length c2 news (by rw [hsz]; exact hnl) hnews hr2.one hroom (by rw [hsz]; exact hfit')
   rw [hsz] at hrun
   have hfr : ∀ k, o + xs.length * sz ≤ k → k < o + xs.length * sz + news.length → C g k = none := fun k k1 k2 => by
    refine hfree k k1 ?_
    have : (xs.length + ys.length) * sz ≤ c * sz := Nat.mul_le_mul_right _ hroom
    rw [Nat.add_mul] at this
    omega
   have hle : Gle C (commit C g (o + xs.length * sz) news) := commit_le hfr
   -- the new cells
   generalize hW : w.setRow g (cur.toList.take (o + xs.length * sz) ++ news ++ cur.toList.drop (o + xs.length * sz + news.length)).toArray = w' at hrun
   have hgw : w'.heap[g]? = some (.cells (cur.toList.take (o + xs.length * sz) ++ news ++ cur.toList.drop (o + xs.length * sz + news.length)).toArray e (0, 0)) := by rw [← hW]; exact setRow_at hg _
   have hgrown : w.grownBy w' (some g) := by rw [← hW]; exact setRow_grown _ _ _
   have hcell : ∀ k, (w'.cell? ⟨g, k, none⟩) = (cur.toList.take (o + xs.length * sz) ++ news ++ cur.toList.drop (o + xs.length * sz + news.length))[k]? := fun k => by
    simp only [World.cell?, hgw]
    simp
   have hold : w.cell? ⟨g, 0, none⟩ = w.cell? ⟨g, 0, none⟩ := rfl
   have hHas : Has w' (commit C g (o + xs.length * sz) news) := by
    intro b k v hv
    simp only [commit] at hv
    split at hv
    ·rename_i hin
     obtain ⟨rfl, k1, k2⟩ := hin
     rw [hcell, List.append_assoc, List.getElem?_append_right (by simp; omega), List.getElem?_append_left (by simp; omega)]
     have hmin : (cur.toList.take (o + xs.length * sz)).length = o + xs.length * sz := by simp; omega
     rw [hmin]
     exact hv
    ·rename_i hin
     by_cases hbg : b = g
     ·subst hbg
      have hc := hH _ _ _ hv
      simp only [World.cell?, hg] at hc
      have hk : k < cur.size := by
       have := (Array.getElem?_eq_some_iff.1 (by simpa using hc)).1
       exact this
      rw [hcell]
      have hmin : (cur.toList.take (o + xs.length * sz)).length = o + xs.length * sz := by simp; omega
      by_cases k1 : k < o + xs.length * sz
      ·rw [List.append_assoc, List.getElem?_append_left (by rw [hmin]; exact k1), List.getElem?_take_of_lt k1]
       simpa using hc
      ·have k2 : o + xs.length * sz + news.length ≤ k := by
        by_cases k2 : k < o + xs.length * sz + news.length
        ·exact absurd ⟨rfl, by omega, k2⟩ hin
        ·omega
       rw [List.getElem?_append_right (by simp; omega), List.getElem?_drop]
       have : o + xs.length * sz + news.length + (k - (cur.toList.take (o + xs.length * sz) ++ news).length) = k := by
        rw [List.length_append, hmin]; omega
       rw [this]
       simpa using hc
     ·rw [World.cell?_of_block (w := w) (hgrown.block b (hH.lt hv) (by simp; exact hbg))]
      exact hH _ _ _ hv
   refine ⟨some ⟨g, o, none⟩, c, w', commit C g (o + xs.length * sz) news, by rw [List.length_append]; exact hrun, ?_, ?_, ?_, ?_⟩
   ·refine ⟨by rw [List.length_append]; exact hroom, by rw [List.length_append]; exact hlen, fun j x hj => ?_⟩
    by_cases hjn : j < xs.length
    ·rw [List.getElem?_append_left hjn] at hj
     obtain ⟨cs, k1, k2⟩ := h1.at_ j x hj
     exact ⟨cs, K.mono _ _ _ _ hle k1, k2.mono hle⟩
    ·rw [List.getElem?_append_right (by omega)] at hj
     obtain ⟨ds, k1, k2⟩ := (hr2.mono hle).at_ g (o + xs.length * sz) (commit_seg _ _ _ _) _ x hj
     refine ⟨ds, k1, g, o, rfl, ?_⟩
     rw [hK] at k2 ⊢
     have hm : j * sz = xs.length * sz + (j - xs.length) * sz := by rw [← Nat.add_mul]; congr 1; omega
     rw [hm, ← Nat.add_assoc]
     exact k2
   ·refine ⟨by rw [List.length_append]; exact hroom, fun hl => ⟨g, o, _, rfl, hBg, hgw, by simp; omega, fun k k1 k2 => ?_⟩⟩
    rw [List.length_append, Nat.add_mul] at k1
    simp only [commit]
    rw [if_neg (by omega)]
    exact hfree k (by omega) k2
   ·refine ⟨⟨hgrown.os, hgrown.tape, hgrown.output, hgrown.size, fun k hk => hgrown.block k (by omega) (by simp; omega)⟩, hHas, hle, fun b k hbb => commit_ne _ _ _ (by omega) _⟩
   ·refine ⟨hgrown.size, fun k hk hn => ?_, fun k hk hn hl a ha => ?_⟩
    ·have hkg : g ≠ k := hn (by omega) _ rfl
     exact ⟨hgrown.block k hk (by simp; omega), fun o' => commit_ne _ _ _ (by omega) _⟩
    ·exact hn (by omega) a ha
  ·-- a new row
   obtain ⟨olds, hr1, hs1⟩ := h1.row
   have hol : olds.length = xs.length * sz := by rw [hr1.len, hK]
   have hgrow : ∃ v' w', (Builtin.append_ #[t, t] ty #[.slice A xs.length c, .slice (some ⟨g2, o2, none⟩) ys.length c2]).run P w = .ok v' w' ∧ w'.ownsRow w.heap.size e sz v' (xs.length + ys.length) (olds ++ news) ∧ w.grownBy w' none := by
    cases A with
    | some b =>
     refine run_append_arg_grows (P := P) w t ty e i z sz bytes ht hi hz hsz hby hzs hp b xs.length c olds hol (fun j u hj => ?_) ⟨g2, o2, none⟩ ys.length c2 news hnl hnews (by omega) (by simp only [maxLen]; omega) hb
     have hx : 0 < xs.length := by
      rcases Nat.eq_zero_or_pos xs.length with hx | hx
      ·rw [hx, Nat.zero_mul] at hol
       rw [List.eq_nil_of_length_eq_zero hol] at hj
       simp at hj
      ·exact hx
     obtain ⟨g, o, hA, hseg⟩ := hs1 hx
     cases hA
     rw [xAu]
     exact hH _ _ _ (hseg j u hj)
    | none =>
     have hx : xs.length = 0 := by
      rcases Nat.eq_zero_or_pos xs.length with hx | hx
      ·exact hx
      ·have := h1.isSome hx
       simp at this
     have hc0 : c = 0 := by
      rcases Nat.eq_zero_or_pos c with hc0 | hc0
      ·exact hc0
      ·obtain ⟨g, o, cs, h, _⟩ := ho.sp (by omega)
       cases h
     rw [hx, Nat.zero_mul] at hol
     have := List.eq_nil_of_length_eq_zero hol
     subst this
     obtain ⟨v', w', k1, k2, k3, _⟩ := run_append_own (P := P) w w.heap.size t ty e i z sz bytes ht hi hz hsz hby hzs hp (.slice none 0 0) 0 [] (World.ownsRow_nil _ _ _ _) ⟨g2, o2, none⟩ ys.length c2 news hnl hnews hr2.one (by simp only [maxLen]; omega) (by rw [hx] at hb; exact hb) (Nat.le_refl _)
     rw [hx, hc0]
     exact ⟨v', w', k1, by simpa using k2, by simpa [Value.ownBlock] using k3⟩
   obtain ⟨v', w', hrun, hown, hgr⟩ := hgrow
   obtain ⟨hlen', hform⟩ := hown
   rcases hform with ⟨_, hn0⟩ | ⟨g, cap, cur, rfl, hgB, hg, hnc, hcm, hcs, htake⟩
   ·omega
   have hle : Gle C (commit C g 0 (olds ++ news)) := commit_le fun k _ _ => hH.none k hgB
   have hrow : RowR K C (xs ++ ys) (olds ++ news) := hr1.app hr2
   refine ⟨some ⟨g, 0, none⟩, cap, w', commit C g 0 (olds ++ news), by rw [List.length_append]; exact hrun, ?_, ?_, ?_, ?_⟩
   ·exact Sl.of_row (hrow.mono hle) (commit_seg _ _ _ _) (by rw [List.length_append]; exact hnc) (by rw [List.length_append]; exact hlen)
   ·refine ⟨by rw [List.length_append]; exact hnc, fun hl => ⟨g, 0, cur, rfl, by omega, hg, by omega, fun k k1 k2 => ?_⟩⟩
    simp only [commit]
    rw [if_neg]
    ·exact hH.none k hgB
    ·rintro ⟨_, _, h3⟩
     rw [hlen'] at h3
     rw [List.length_append] at k1
     omega
   ·refine ⟨⟨hgr.os, hgr.tape, hgr.output, hgr.size, fun k hk => hgr.block k (by omega) (by simp)⟩, ?_, hle, fun b k hbb => commit_ne _ _ _ (by omega) _⟩
    refine commit_has (hH.below (by exact ⟨hgr.os, hgr.tape, hgr.output, hgr.size, fun k hk => hgr.block k hk (by simp)⟩)) fun j v hj => ?_
    have hjl : j < (olds ++ news).length := (List.getElem?_eq_some_iff.1 hj).1
    rw [← htake] at hj
    simp only [World.cell?, hg, Option.isSome_none, Bool.false_eq_true, if_false, Nat.zero_add]
    rw [hlen'] at hjl
    rw [List.getElem?_take_of_lt hjl] at hj
    simpa using hj
   ·refine ⟨hgr.size, fun k hk hn => ⟨hgr.block k hk (by simp), fun o' => commit_ne _ _ _ (by omega) _⟩, fun k hk hn hl a ha => ?_⟩
    cases ha
    simp
    omega
theorem r_append {α : Type} {K : Kd α} {C : Gh} {B e t : Nat} {i : TypeInfo} {z : Value} {sz bytes : Nat} {A A2 : Option Addr} {c c2 : Nat} {xs ys : List α} {x y : Operand}
  (ht : P.underlying t = some (.slice e)) (hi : P.info? e = some i) (hz : i.zero = some z) (hsz : i.size = sz) (hby : i.bytes = bytes) (hzs : z.cells.size = sz) (hpos : Nat.blt 0 sz = true) (hK : K.sz = sz)
  (hx : ρ x = .slice A xs.length c) (hy : ρ y = .slice A2 ys.length c2)
  (h1 : Sl K C A c xs) (ho : Own B e sz w C A xs.length c) (h2 : Sl K C A2 c2 ys) (hH : Has w C) (hB : B ≤ w.heap.size) (hb : (xs.length + ys.length) * bytes ≤ 140737488355328) (hlen : xs.length + ys.length ≤ 140737488355328) :
  ∃ A' c' w' C', (execOp ρ ⟨d, .call { callee := .builtin .append, args := #[x, y], argTypes := #[t, t] }, ty, pos, af, gd⟩).run P w = .ok (.value (.slice A' (xs ++ ys).length c')) w' ∧ Sl K C' A' c' (xs ++ ys) ∧ Own B e sz w' C' A' (xs ++ ys).length c' ∧
   Ext B w C w' C' ∧ App A xs.length c w C A' (xs ++ ys).length c' w' C' := by
 obtain ⟨A', c', w', C', hrun, h⟩ := app_law (P := P) (w := w) (ty := ty) ht hi hz hsz hby hzs hpos hK h1 ho h2 hH hB hb hlen
 exact ⟨A', c', w', C', by simp [execOp, resolve, invoke, builtin, hx, hy, hrun], h⟩

theorem Sl.take {α : Type} {K : Kd α} {C : Gh} {A : Option Addr} {c c' : Nat} {xs : List α} (h : Sl K C A c xs) (n : Nat) (hc : (xs.take n).length ≤ c') : Sl K C A c' (xs.take n) :=
 ⟨hc, by have := h.bd; simp; omega, fun j x e => h.at_ j x (by
  rw [List.getElem?_take] at e
  split at e
  ·exact e
  ·cases e)⟩
theorem Sl.drop {α : Type} {K : Kd α} {C : Gh} {A : Option Addr} {c c' : Nat} {xs : List α} (h : Sl K C A c xs) (n : Nat) (hc : (xs.drop n).length ≤ c') : Sl K C (A.map (·.add (n * K.sz))) c' (xs.drop n) :=
 ⟨hc, by have := h.bd; simp; omega, fun j x e => by
  rw [List.getElem?_drop] at e
  obtain ⟨cs, h1, g, o, hA, hs⟩ := h.at_ _ x e
  refine ⟨cs, h1, g, o + n * K.sz, by rw [hA]; simp [xAu], ?_⟩
  rw [Nat.add_mul, ← Nat.add_assoc] at hs
  exact hs⟩
theorem Sl.dropAny {α : Type} {K : Kd α} {C : Gh} {A : Option Addr} {c c' c'' : Nat} {xs : List α} (h : Sl K C A c xs) (n m : Nat) (hc : (xs.drop n).length ≤ c') (hm : m = n → xs.length ≤ n) : Sl K C (if m = n then A else A.map (·.add (n * K.sz))) c' (xs.drop n) := by
 split
 ·rename_i he
  have := hm he
  have hnil : xs.drop n = [] := List.drop_eq_nil_of_le this
  rw [hnil]
  exact Sl.nil _ _ _ _
 ·exact h.drop n hc
end
end Go.Proofs.YtlofomkhiefbmaaGreatDoor

namespace Go.Proofs.YtlofomkhiefbmaaGreatDoor
open Go.RowKit
theorem xAe {α : Type} {xs : List α} {j : Nat} (h : j < xs.length) : ∃ x, xs[j]? = some x := ⟨xs[j], by simp [h]⟩
theorem stCells {w w' : World} {C : Gh} {g : Nat} {cs : List Value} {t : TypeId} (h : St w C g cs t) (hb : Below w.heap.size w w') {j : Nat} {v : Value} (o : Nat) {ds : List Value} (hd : ds = (cs.drop o).take ds.length) (hj : ds[j]? = some v) : w'.cell? ⟨g, o + j, none⟩ = some v := by
 refine h.cellB hb ?_
 rw [hd] at hj
 rw [List.getElem?_take] at hj
 split at hj
 ·rwa [List.getElem?_drop] at hj
 ·cases hj
theorem Nb2.full {A A2 : Option Addr} {n n2 c2 : Nat} : Nb2 A n n A2 n2 c2 := fun _ _ _ => Nb.full
theorem Own.mut {B e sz : Nat} {w w' : World} {C C' : Gh} {A : Option Addr} {n c g : Nat} (h : Own B e sz w C A n c) (m : Mut g w C w' C') (hn : Nb A n c g) : Own B e sz w' C' A n c :=
 ⟨h.le, fun hl => let ⟨g', o, cs, h1, h2, h3, h4, h5⟩ := h.sp hl
  have hne : g' ≠ g := hn hl _ h1
  ⟨g', o, cs, h1, h2, (m.grown.block g' (blk_lt' h3) (by simp; exact hne)).trans h3, h4, fun k k1 k2 => (m.old g' k (blk_lt' h3) hne).trans (h5 k k1 k2)⟩⟩
theorem Nb2.symm {A A2 : Option Addr} {n c n2 c2 : Nat} (h : Nb2 A n c A2 n2 c2) : Nb2 A2 n2 c2 A n c := fun h1 a ha h2 a2 ha2 => (h h2 a2 ha2 h1 a ha).symm
theorem Nb2.nil {A2 : Option Addr} {n2 c2 : Nat} : Nb2 none 0 0 A2 n2 c2 := Nb2.full
theorem App.nb2 {B e sz : Nat} {w w' : World} {C C' : Gh} {A A' A2 : Option Addr} {n c n' c' n2 c2 : Nat} (m : App A n c w C A' n' c' w' C') (h : Own B e sz w C A2 n2 c2) (hn : Nb2 A n c A2 n2 c2) : Nb2 A' n' c' A2 n2 c2 := fun hl a ha => by
 obtain ⟨g, o, cs, h1, _, h3, _⟩ := h.sp hl
 have hg := blk_lt' h3
 have := hn hl a ha
 rw [h1] at ha
 cases ha
 exact m.nb g hg this
theorem St.commit {w : World} {C : Gh} {g : Nat} {cs : List Value} {t : TypeId} (h : St w C g cs t) (hH : Has w C) : ∃ C', Mut g w C w C' ∧ CellsG C' (some ⟨g, 0, none⟩) 0 cs := by
 have hle : Gle C (Go.Proofs.YtlofomkhiefbmaaGreatDoor.commit C g 0 cs) := commit_le fun k _ _ => h.un k
 refine ⟨Go.Proofs.YtlofomkhiefbmaaGreatDoor.commit C g 0 cs, ⟨⟨rfl, rfl, rfl, Nat.le_refl _, fun _ _ _ => rfl⟩, commit_has hH fun i v hv => ?_, hle, fun k o _ hk => commit_ne _ _ _ hk _⟩, ⟨g, 0, rfl, commit_seg _ _ _ _⟩⟩
 rw [Nat.zero_add]
 exact h.cell hv
theorem nb2_new {B e sz e2 sz2 : Nat} {w w' : World} {C C' : Gh} {A A2 : Option Addr} {n c n2 c2 : Nat} (h : Own B e sz w C A n c) (h2 : Own w.heap.size e2 sz2 w' C' A2 n2 c2) : Nb2 A n c A2 n2 c2 := fun hl a ha hl1 a1 ha1 => by
 obtain ⟨g, o, cs, k1, _, k3, _⟩ := h.sp hl1
 obtain ⟨g2, o2, cs2, k4, k5, _⟩ := h2.sp hl
 have := blk_lt' k3
 rw [k1] at ha1
 rw [k4] at ha
 cases ha1
 cases ha
 simp
 omega
structure SS (C : Gh) (M : Nat → Prop) (WS w' : World) : Prop where
 has : Has w' C
 size : WS.heap.size ≤ w'.heap.size
 blk : ∀ k, k < WS.heap.size → M k → w'.heap[k]? = WS.heap[k]?
theorem SS.refl {C : Gh} {M : Nat → Prop} {w : World} (h : Has w C) : SS C M w w := ⟨h, Nat.le_refl _, fun _ _ _ => rfl⟩
theorem SS.step {C C1 C2 : Gh} {M : Nat → Prop} {WS w w2 : World} (h : SS C M WS w) (e : Ext w.heap.size w C1 w2 C2) : SS C M WS w2 :=
 ⟨h.has.below e.below, Nat.le_trans h.size e.below.size, fun k hk hm => (e.below.block k (Nat.lt_of_lt_of_le hk h.size)).trans (h.blk k hk hm)⟩
theorem SS.app {C C1 C2 : Gh} {M : Nat → Prop} {WS w w2 : World} {A A' : Option Addr} {n c n' c' : Nat} (h : SS C M WS w) (m : App A n c w C1 A' n' c' w2 C2) (hH : Has w2 C2) (hle : Gle C C2) (hM : ∀ k, M k → Nb A n c k) : SS C M WS w2 :=
 ⟨fun b o v e => hH b o v (hle b o v e), Nat.le_trans h.size m.size, fun k hk hm => ((m.oth k (Nat.lt_of_lt_of_le hk h.size) (hM k hm)).1).trans (h.blk k hk hm)⟩
theorem SS.cell {C C1 : Gh} {M : Nat → Prop} {WS w' : World} {g : Nat} {cs : List Value} {t : TypeId} (h : SS C M WS w') (st : St WS C1 g cs t) (hM : M g) {o : Nat} {v : Value} (hv : cs[o]? = some v) : w'.cell? ⟨g, o, none⟩ = some v := by
 rw [World.cell?_of_block (w := WS) (h.blk g st.lt hM)]
 exact st.cell hv
theorem SS.cells {C C1 : Gh} {M : Nat → Prop} {WS w' : World} {g : Nat} {cs : List Value} {t : TypeId} (h : SS C M WS w') (st : St WS C1 g cs t) (hM : M g) {j : Nat} {v : Value} (o : Nat) {ds : List Value} (hd : ds = (cs.drop o).take ds.length) (hj : ds[j]? = some v) : w'.cell? ⟨g, o + j, none⟩ = some v := by
 rw [World.cell?_of_block (w := WS) (h.blk g st.lt hM)]
 exact stCells st (Below.refl _ _) o hd hj
section
variable {D : List Deferred} {P : Program} {N : Nat} {Q : Exit → Fr → World → Prop} {T : Fr} {w : World} {ops : Array Oper} {S : World → Prop} {zs : List Nat} {i : Nat} {o : Oper} {C : Gh}
section
variable {t d : Nat} {cs : List Value} {v : Value}
theorem xAb {l : List Oper} (ho : o.op = .alloc t) (hd : o.dst = some d) (hw : wantedF ops T o = true) (hz : ∀ w, (zeroValue t).run P w = .ok v w) (hcs : v.cells = cs.toArray) (hH : Has w C)
  (h : ∀ g w', St w' C g cs t → Ext w.heap.size w C w' C → w.heap.size = g → FWl D P N ops Q l (upd T d (.pointer (some ⟨g, 0, none⟩))) w') : FWl D P N ops Q (o :: l) T w := by
 obtain ⟨dst, op, ty, pos, af, gd⟩ := o; cases ho
 obtain ⟨g, w', hr, h1, h2, h3⟩ := new_alloc (P := P) (ρ := ev T) (d := dst) (ty := ty) (pos := pos) (af := af) (gd := gd) hz hcs hH
 exact xAm d hd hw _ _ hr (h g w' h1 h2 h3)
theorem FWs.alloc {l : STr} (hi : ops[i]? = some o) (ho : o.op = .alloc t) (hd : o.dst = some d) (hw : wantedF ops T o = true) (hz : ∀ w, (zeroValue t).run P w = .ok v w) (hcs : v.cells = cs.toArray) (hH : Has w C)
  (h : ∀ g w', St w' C g cs t → Ext w.heap.size w C w' C → w.heap.size = g → (zs.contains i = true ∨ S w') ∧ FWs D P N ops Q S zs l (upd T d (.pointer (some ⟨g, 0, none⟩))) w') : FWs D P N ops Q S zs (.one i l) T w := by
 obtain ⟨dst, op, ty, pos, af, gd⟩ := o; cases ho
 obtain ⟨g, w', hr, h1, h2, h3⟩ := new_alloc (P := P) (ρ := ev T) (d := dst) (ty := ty) (pos := pos) (af := af) (gd := gd) hz hcs hH
 exact xBB hi d hd hw _ _ hr (h g w' h1 h2 h3).1 (h g w' h1 h2 h3).2
theorem xAh {l : List Oper} {x : Operand} (ho : o.op = .box t x) (hd : o.dst = some d) (hw : wantedF ops T o = true) (hx : ev T x = v) (hcs : v.cells = cs.toArray) (hH : Has w C)
  (h : ∀ g w', St w' C g cs t → Ext w.heap.size w C w' C → w.heap.size = g → FWl D P N ops Q l (upd T d (.pointer (some ⟨g, 0, none⟩))) w') : FWl D P N ops Q (o :: l) T w := by
 obtain ⟨dst, op, ty, pos, af, gd⟩ := o; cases ho
 obtain ⟨g, w', hr, h1, h2, h3⟩ := new_box (P := P) (ρ := ev T) (d := dst) (ty := ty) (pos := pos) (af := af) (gd := gd) hx hcs hH
 exact xAm d hd hw _ _ hr (h g w' h1 h2 h3)
theorem FWs.box {l : STr} {x : Operand} (hi : ops[i]? = some o) (ho : o.op = .box t x) (hd : o.dst = some d) (hw : wantedF ops T o = true) (hx : ev T x = v) (hcs : v.cells = cs.toArray) (hH : Has w C)
  (h : ∀ g w', St w' C g cs t → Ext w.heap.size w C w' C → w.heap.size = g → (zs.contains i = true ∨ S w') ∧ FWs D P N ops Q S zs l (upd T d (.pointer (some ⟨g, 0, none⟩))) w') : FWs D P N ops Q S zs (.one i l) T w := by
 obtain ⟨dst, op, ty, pos, af, gd⟩ := o; cases ho
 obtain ⟨g, w', hr, h1, h2, h3⟩ := new_box (P := P) (ρ := ev T) (d := dst) (ty := ty) (pos := pos) (af := af) (gd := gd) hx hcs hH
 exact xBB hi d hd hw _ _ hr (h g w' h1 h2 h3).1 (h g w' h1 h2 h3).2
end
section
variable {t ts g k n : Nat} {x p : Operand} {cs vs cs' : List Value} {v : Value}
theorem xAP {l : List Oper} (ho : o.op = .store t p x) (hd : o.dst = none) (hw : wantedF ops T o = true) (hs : ∀ w, (sizeOf t).run P w = .ok n w) (hn : vs.length = n) (hst : St w C g cs ts) (hH : Has w C)
  (hp : ev T p = .pointer (some ⟨g, k, none⟩)) (hx : ev T x = v) (hv : v.cells = vs.toArray) (h1 : (vs.all fun u => u.oneCell') = true) (hl : Nat.ble (k + vs.length) cs.length = true) (hc : putAt cs k vs = cs')
  (h : ∀ w', Mut g w C w' C → St w' C g cs' ts → FWl D P N ops Q l T w') : FWl D P N ops Q (o :: l) T w := by
 obtain ⟨dst, op, ty, pos, af, gd⟩ := o; cases ho
 obtain ⟨w', hr, h2, h3⟩ := r_storeSt (P := P) (ρ := ev T) (d := dst) (ty := ty) (pos := pos) (af := af) (gd := gd) hs hn hst hH hp hx hv h1 (Nat.le_of_ble_eq_true hl)
 exact FWl.unit hd hw _ hr (h w' h2 (hc ▸ h3))
theorem xAw {l : STr} (hi : ops[i]? = some o) (ho : o.op = .store t p x) (hd : o.dst = none) (hw : wantedF ops T o = true) (hs : ∀ w, (sizeOf t).run P w = .ok n w) (hn : vs.length = n) (hst : St w C g cs ts) (hH : Has w C)
  (hp : ev T p = .pointer (some ⟨g, k, none⟩)) (hx : ev T x = v) (hv : v.cells = vs.toArray) (h1 : (vs.all fun u => u.oneCell') = true) (hl : Nat.ble (k + vs.length) cs.length = true) (hc : putAt cs k vs = cs')
  (h : ∀ w', Mut g w C w' C → St w' C g cs' ts → (zs.contains i = true ∨ S w') ∧ FWs D P N ops Q S zs l T w') : FWs D P N ops Q S zs (.one i l) T w := by
 obtain ⟨dst, op, ty, pos, af, gd⟩ := o; cases ho
 obtain ⟨w', hr, h2, h3⟩ := r_storeSt (P := P) (ρ := ev T) (d := dst) (ty := ty) (pos := pos) (af := af) (gd := gd) hs hn hst hH hp hx hv h1 (Nat.le_of_ble_eq_true hl)
 exact FWs.unit hi hd hw _ hr (h w' h2 (hc ▸ h3)).1 (h w' h2 (hc ▸ h3)).2
end
section
variable {α : Type} {K : Kd α} {t e d len : Nat} {parts : Array (Nat × Operand)} {xs ys : List α} {cs : List Value} {ie : TypeInfo} {z : Value}
theorem FWl.lit {l : List Oper} (ho : o.op = .buildSlice t len parts) (hd : o.dst = some d) (hw : wantedF ops T o = true) (hu : P.underlying t = some (.slice e)) (hie : P.info? e = some ie) (hz : ie.zero = some z)
  (hsmall : (Nat.ble (len * ie.size) 16777216 && Nat.blt 0 (len * ie.size)) = true)
  (hf : Instr.fill (fun i => some (i * ie.size, ie.size)) ((Array.range (len * ie.size)).map (z.cells[· % z.cells.size]!)) (parts.map fun (i, x) => (i, ev T x)).toList = some cs.toArray)
  (hr : RowR K C xs cs) (hl : xs.length = len) (hH : Has w C)
  (h : ∀ A w' C', Sl K C' A len xs → Ext w.heap.size w C w' C' → CellsG C' A 0 cs → FWl D P N ops Q l (upd T d (.slice A len len)) w') : FWl D P N ops Q (o :: l) T w := by
 obtain ⟨dst, op, ty, pos, af, gd⟩ := o; cases ho
 obtain ⟨A, w', C', hrun, h1, h2, h3⟩ := new_lit (P := P) (ρ := ev T) (d := dst) (ty := ty) (pos := pos) (af := af) (gd := gd) hu hie hz hsmall hf hr hl hH
 exact xAm d hd hw _ _ hrun (h A w' C' h1 h2 h3)
theorem FWs.lit {l : STr} (hi : ops[i]? = some o) (ho : o.op = .buildSlice t len parts) (hd : o.dst = some d) (hw : wantedF ops T o = true) (hu : P.underlying t = some (.slice e)) (hie : P.info? e = some ie) (hz : ie.zero = some z)
  (hsmall : (Nat.ble (len * ie.size) 16777216 && Nat.blt 0 (len * ie.size)) = true)
  (hf : Instr.fill (fun i => some (i * ie.size, ie.size)) ((Array.range (len * ie.size)).map (z.cells[· % z.cells.size]!)) (parts.map fun (i, x) => (i, ev T x)).toList = some cs.toArray)
  (hr : RowR K C xs cs) (hl : xs.length = len) (hH : Has w C)
  (h : ∀ A w' C', Sl K C' A len xs → Ext w.heap.size w C w' C' → CellsG C' A 0 cs → (zs.contains i = true ∨ S w') ∧ FWs D P N ops Q S zs l (upd T d (.slice A len len)) w') : FWs D P N ops Q S zs (.one i l) T w := by
 obtain ⟨dst, op, ty, pos, af, gd⟩ := o; cases ho
 obtain ⟨A, w', C', hrun, h1, h2, h3⟩ := new_lit (P := P) (ρ := ev T) (d := dst) (ty := ty) (pos := pos) (af := af) (gd := gd) hu hie hz hsmall hf hr hl hH
 exact xBB hi d hd hw _ _ hrun (h A w' C' h1 h2 h3).1 (h A w' C' h1 h2 h3).2
theorem new_lit0 {ρ : Operand → Value} {d : Option Tmp} {ty : TypeId} {pos : String} {af : Array Edge} {gd : Option (Nat × Bool)} {n : Nat} (hu : ∀ w, (underlying t).run P w = .ok (.slice e) w) (hs : ∀ w, (sizeOf e).run P w = .ok n w) (hH : Has w C) :
  ∃ a w', (execOp ρ ⟨d, .buildSlice t 0 #[], ty, pos, af, gd⟩).run P w = .ok (.value (.slice (some a) 0 0)) w' ∧ Ext w.heap.size w C w' C :=
 ⟨⟨w.heap.size, 0, none⟩, w.alloc (.cells #[] e), by
  have h0 : ∀ f : Nat → Value, Array.map f (Array.range 0) = #[] := fun f => by apply Array.eq_empty_of_size_eq_zero; simp
  simp [execOp, Instr.buildSlice, hu, hs, Instr.fill, newRow, h0], alloc_ext hH _⟩
theorem FWl.lit0 {n : Nat} {l : List Oper} (ho : o.op = .buildSlice t 0 #[]) (hd : o.dst = some d) (hw : wantedF ops T o = true) (hu : ∀ w, (underlying t).run P w = .ok (.slice e) w) (hs : ∀ w, (sizeOf e).run P w = .ok n w) (hH : Has w C)
  (h : ∀ a w', Ext w.heap.size w C w' C → FWl D P N ops Q l (upd T d (.slice (some a) 0 0)) w') : FWl D P N ops Q (o :: l) T w := by
 obtain ⟨dst, op, ty, pos, af, gd⟩ := o; cases ho
 obtain ⟨a, w', hrun, h1⟩ := new_lit0 (P := P) (ρ := ev T) (d := dst) (ty := ty) (pos := pos) (af := af) (gd := gd) hu hs hH
 exact xAm d hd hw _ _ hrun (h a w' h1)
theorem FWs.lit0 {n : Nat} {l : STr} (hi : ops[i]? = some o) (ho : o.op = .buildSlice t 0 #[]) (hd : o.dst = some d) (hw : wantedF ops T o = true) (hu : ∀ w, (underlying t).run P w = .ok (.slice e) w) (hs : ∀ w, (sizeOf e).run P w = .ok n w) (hH : Has w C)
  (h : ∀ a w', Ext w.heap.size w C w' C → (zs.contains i = true ∨ S w') ∧ FWs D P N ops Q S zs l (upd T d (.slice (some a) 0 0)) w') : FWs D P N ops Q S zs (.one i l) T w := by
 obtain ⟨dst, op, ty, pos, af, gd⟩ := o; cases ho
 obtain ⟨a, w', hrun, h1⟩ := new_lit0 (P := P) (ρ := ev T) (d := dst) (ty := ty) (pos := pos) (af := af) (gd := gd) hu hs hH
 exact xBB hi d hd hw _ _ hrun (h a w' h1).1 (h a w' h1).2
variable {B sz bytes : Nat} {A A2 : Option Addr} {c c2 : Nat} {x y : Operand}
theorem FWl.app {l : List Oper} (ho : o.op = .call { callee := .builtin .append, args := #[x, y], argTypes := #[t, t] }) (hd : o.dst = some d) (hw : wantedF ops T o = true)
  (ht : P.underlying t = some (.slice e)) (hi : P.info? e = some ie) (hz : ie.zero = some z) (hsz : ie.size = sz) (hby : ie.bytes = bytes) (hzs : z.cells.size = sz) (hpos : Nat.blt 0 sz = true) (hK : K.sz = sz)
  (hx : ev T x = .slice A xs.length c) (hy : ev T y = .slice A2 ys.length c2)
  (h1 : Sl K C A c xs) (hO : Own B e sz w C A xs.length c) (h2 : Sl K C A2 c2 ys) (hH : Has w C) (hB : B ≤ w.heap.size) (hb : (xs.length + ys.length) * bytes ≤ 140737488355328) (hlen : xs.length + ys.length ≤ 140737488355328)
  (h : ∀ A' c' w' C', Sl K C' A' c' (xs ++ ys) → Own B e sz w' C' A' (xs ++ ys).length c' → Ext B w C w' C' → App A xs.length c w C A' (xs ++ ys).length c' w' C' →
   FWl D P N ops Q l (upd T d (.slice A' (xs ++ ys).length c')) w') : FWl D P N ops Q (o :: l) T w := by
 obtain ⟨dst, op, ty, pos, af, gd⟩ := o; cases ho
 obtain ⟨A', c', w', C', hrun, k1, k2, k3, k4⟩ := r_append (P := P) (ρ := ev T) (d := dst) (ty := ty) (pos := pos) (af := af) (gd := gd) ht hi hz hsz hby hzs hpos hK hx hy h1 hO h2 hH hB hb hlen
 exact xAm d hd hw _ _ hrun (h A' c' w' C' k1 k2 k3 k4)
theorem FWs.app {l : STr} (hi' : ops[i]? = some o) (ho : o.op = .call { callee := .builtin .append, args := #[x, y], argTypes := #[t, t] }) (hd : o.dst = some d) (hw : wantedF ops T o = true)
  (ht : P.underlying t = some (.slice e)) (hi : P.info? e = some ie) (hz : ie.zero = some z) (hsz : ie.size = sz) (hby : ie.bytes = bytes) (hzs : z.cells.size = sz) (hpos : Nat.blt 0 sz = true) (hK : K.sz = sz)
  (hx : ev T x = .slice A xs.length c) (hy : ev T y = .slice A2 ys.length c2)
  (h1 : Sl K C A c xs) (hO : Own B e sz w C A xs.length c) (h2 : Sl K C A2 c2 ys) (hH : Has w C) (hB : B ≤ w.heap.size) (hb : (xs.length + ys.length) * bytes ≤ 140737488355328) (hlen : xs.length + ys.length ≤ 140737488355328)
  (h : ∀ A' c' w' C', Sl K C' A' c' (xs ++ ys) → Own B e sz w' C' A' (xs ++ ys).length c' → Ext B w C w' C' → App A xs.length c w C A' (xs ++ ys).length c' w' C' →
   (zs.contains i = true ∨ S w') ∧ FWs D P N ops Q S zs l (upd T d (.slice A' (xs ++ ys).length c')) w') : FWs D P N ops Q S zs (.one i l) T w := by
 obtain ⟨dst, op, ty, pos, af, gd⟩ := o; cases ho
 obtain ⟨A', c', w', C', hrun, k1, k2, k3, k4⟩ := r_append (P := P) (ρ := ev T) (d := dst) (ty := ty) (pos := pos) (af := af) (gd := gd) ht hi hz hsz hby hzs hpos hK hx hy h1 hO h2 hH hB hb hlen
 exact xBB hi' d hd hw _ _ hrun (h A' c' w' C' k1 k2 k3 k4).1 (h A' c' w' C' k1 k2 k3 k4).2
end
theorem xAF {ρ : Operand → Value} {d : Option Tmp} {ty : TypeId} {pos : String} {af : Array Edge} {gd : Option (Nat × Bool)} {x : Operand} {t g j : Nat} {cs : List Value} {v : Value} (ha : ∀ w, (isAgg t).run P w = .ok false w) (hC : CellsG C (some ⟨g, 0, none⟩) 0 cs) (hi : cs[j]? = some v) (hx : ρ x = .pointer (some ⟨g, j, none⟩)) (hH : Has w C) :
  (execOp ρ ⟨d, .load t x, ty, pos, af, gd⟩).run P w = .ok (.value v) w := by
 obtain ⟨g', o, hA, hs⟩ := hC
 cases hA
 have := hs j v hi
 simp only [Nat.zero_add] at this
 exact xAV ha hx (hH _ _ _ this)
theorem xAY {ρ : Operand → Value} {d : Option Tmp} {ty : TypeId} {pos : String} {af : Array Edge} {gd : Option (Nat × Bool)} {x : Operand} {t g : Nat} {cs : List Value} (ha : ∀ w, (isAgg t).run P w = .ok true w) (hs : ∀ w, (sizeOf t).run P w = .ok cs.length w) (hC : CellsG C (some ⟨g, 0, none⟩) 0 cs) (hx : ρ x = .pointer (some ⟨g, 0, none⟩)) (hH : Has w C) :
  (execOp ρ ⟨d, .load t x, ty, pos, af, gd⟩).run P w = .ok (.value (.agg cs.toArray)) w := by
 obtain ⟨g', o, hA, hseg⟩ := hC
 cases hA
 refine r_loadN ha hs hx fun j v hj => ?_
 rw [xAu]
 exact hH _ _ _ (hseg j v hj)
section
variable {ρ : Operand → Value} {d : Option Tmp} {ty : TypeId} {pos : String} {af : Array Edge} {gd : Option (Nat × Bool)} {f : FuncId} {ts : Array TypeId} {a0 a1 a2 a3 a4 a5 : Operand} {v0 v1 v2 v3 v4 v5 : Value}
theorem r_call0 (hcall : ∀ (args : Array Value) (w : World), (callFunc f args).run P w = .ok (.enter f args) w) (hf : ρ (.func f) = .func (.func f) #[] #[]) :
  (execOp ρ ⟨d, .call { callee := .value (.func f), args := #[], argTypes := ts }, ty, pos, af, gd⟩).run P w = .ok (.enter f #[]) w := by
 simp [execOp, resolve, hf, Deferred.ofValue, invoke, hcall]
theorem xAd (hcall : ∀ (args : Array Value) (w : World), (callFunc f args).run P w = .ok (.enter f args) w) (hf : ρ (.func f) = .func (.func f) #[] #[]) (h0 : ρ a0 = v0) :
  (execOp ρ ⟨d, .call { callee := .value (.func f), args := #[a0], argTypes := ts }, ty, pos, af, gd⟩).run P w = .ok (.enter f #[v0]) w := by
 simp [execOp, resolve, hf, Deferred.ofValue, invoke, hcall, h0]
theorem xAW (hcall : ∀ (args : Array Value) (w : World), (callFunc f args).run P w = .ok (.enter f args) w) (hf : ρ (.func f) = .func (.func f) #[] #[]) (h0 : ρ a0 = v0) (h1 : ρ a1 = v1) :
  (execOp ρ ⟨d, .call { callee := .value (.func f), args := #[a0, a1], argTypes := ts }, ty, pos, af, gd⟩).run P w = .ok (.enter f #[v0, v1]) w := by
 simp [execOp, resolve, hf, Deferred.ofValue, invoke, hcall, h0, h1]
theorem r_call3 (hcall : ∀ (args : Array Value) (w : World), (callFunc f args).run P w = .ok (.enter f args) w) (hf : ρ (.func f) = .func (.func f) #[] #[]) (h0 : ρ a0 = v0) (h1 : ρ a1 = v1) (h2 : ρ a2 = v2) :
  (execOp ρ ⟨d, .call { callee := .value (.func f), args := #[a0, a1, a2], argTypes := ts }, ty, pos, af, gd⟩).run P w = .ok (.enter f #[v0, v1, v2]) w := by
 simp [execOp, resolve, hf, Deferred.ofValue, invoke, hcall, h0, h1, h2]
theorem r_call4 (hcall : ∀ (args : Array Value) (w : World), (callFunc f args).run P w = .ok (.enter f args) w) (hf : ρ (.func f) = .func (.func f) #[] #[]) (h0 : ρ a0 = v0) (h1 : ρ a1 = v1) (h2 : ρ a2 = v2) (h3 : ρ a3 = v3) :
  (execOp ρ ⟨d, .call { callee := .value (.func f), args := #[a0, a1, a2, a3], argTypes := ts }, ty, pos, af, gd⟩).run P w = .ok (.enter f #[v0, v1, v2, v3]) w := by
 simp [execOp, resolve, hf, Deferred.ofValue, invoke, hcall, h0, h1, h2, h3]
theorem r_makeFunc1 {fn : Fn} (h0 : ρ a0 = v0) : (execOp ρ ⟨d, .makeFunc fn #[] #[a0], ty, pos, af, gd⟩).run P w = .ok (.value (.func fn #[] #[v0])) w := by simp [execOp, Instr.makeFunc, h0]
theorem r_makeFunc2 {fn : Fn} (h0 : ρ a0 = v0) (h1 : ρ a1 = v1) : (execOp ρ ⟨d, .makeFunc fn #[] #[a0, a1], ty, pos, af, gd⟩).run P w = .ok (.value (.func fn #[] #[v0, v1])) w := by simp [execOp, Instr.makeFunc, h0, h1]
end
end
end Go.Proofs.YtlofomkhiefbmaaGreatDoor

namespace Go.Proofs.YtlofomkhiefbmaaGreatDoor
structure Line where
 text : ByteArray
 bare : Bool
deriving DecidableEq
structure Edit where
 do_ : Int
 lines : List Line
deriving DecidableEq
structure Hunk where
 oldAt : Int
 old : Int
 newAt : Int
 new_ : Int
 edits : List Edit
deriving DecidableEq
def total (s : List Edit) : Nat := (s.map fun x => x.lines.length).sum
structure okS (s : List Edit) : Prop where
 len : s.length ≤ 800
 tot : total s ≤ 800
 dos : ∀ x ∈ s, 1 ≤ x.do_ ∧ x.do_ ≤ 3
def oldS (s : List Edit) : List Line := s.flatMap fun x => if x.do_ = 3 then [] else x.lines
def newS (s : List Edit) : List Line := s.flatMap fun x => if x.do_ = 2 then [] else x.lines
def changed (s : List Edit) : Nat := (s.map fun x => if x.do_ = 2 ∨ x.do_ = 3 then x.lines.length else 0).sum
theorem xAz {α : Type} {l : List α} {k : Nat} {x : α} (h : l[k]? = some x) : l.take (k + 1) = l.take k ++ [x] := by
 rw [List.take_add_one, h]; rfl
theorem total_snoc (s : List Edit) (x : Edit) : total (s ++ [x]) = total s + x.lines.length := by simp [total]
theorem total_take {s : List Edit} {k : Nat} {x : Edit} (h : s[k]? = some x) : total (s.take (k + 1)) = total (s.take k) + x.lines.length := by rw [xAz h, total_snoc]
theorem total_take_le (s : List Edit) (k : Nat) : total (s.take k) ≤ total s := by
 have h : total s = total (s.take k) + total (s.drop k) := by
  conv => lhs; rw [← List.take_append_drop k s]
  simp only [total, List.map_append, List.sum_append]
 omega
theorem oldS_take {s : List Edit} {k : Nat} {x : Edit} (h : s[k]? = some x) : oldS (s.take (k + 1)) = oldS (s.take k) ++ (if x.do_ = 3 then [] else x.lines) := by rw [xAz h]; simp [oldS]
theorem newS_take {s : List Edit} {k : Nat} {x : Edit} (h : s[k]? = some x) : newS (s.take (k + 1)) = newS (s.take k) ++ (if x.do_ = 2 then [] else x.lines) := by rw [xAz h]; simp [newS]
theorem changed_take {s : List Edit} {k : Nat} {x : Edit} (h : s[k]? = some x) : changed (s.take (k + 1)) = changed (s.take k) + (if x.do_ = 2 ∨ x.do_ = 3 then x.lines.length else 0) := by rw [xAz h]; simp [changed]
theorem oldS_len (s : List Edit) : (oldS s).length ≤ total s := by
 induction s with
 | nil => simp [oldS, total]
 | cons x s ih =>
  have h1 : oldS (x :: s) = (if x.do_ = 3 then [] else x.lines) ++ oldS s := by simp [oldS]
  have h2 : total (x :: s) = x.lines.length + total s := by simp [total]
  rw [h1, h2, List.length_append]
  split <;> simp <;> omega
theorem newS_len (s : List Edit) : (newS s).length ≤ total s := by
 induction s with
 | nil => simp [newS, total]
 | cons x s ih =>
  have h1 : newS (x :: s) = (if x.do_ = 2 then [] else x.lines) ++ newS s := by simp [newS]
  have h2 : total (x :: s) = x.lines.length + total s := by simp [total]
  rw [h1, h2, List.length_append]
  split <;> simp <;> omega
theorem changed_len (s : List Edit) : changed s ≤ total s := by
 induction s with
 | nil => simp [changed, total]
 | cons x s ih =>
  have h1 : changed (x :: s) = (if x.do_ = 2 ∨ x.do_ = 3 then x.lines.length else 0) + changed s := by simp [changed]
  have h2 : total (x :: s) = x.lines.length + total s := by simp [total]
  rw [h1, h2]
  split <;> omega
section
variable {α : Type} [DecidableEq α] {xs ys : List α}
theorem eq_len (h : ((xs.length : Nat) : Int) ≠ ((ys.length : Nat) : Int)) : false = decide (xs = ys) := by
 symm; rw [decide_eq_false_iff_not]; intro e; subst e; exact h rfl
theorem eq_elem {i : Nat} {x y : α} (hx : xs[i]? = some x) (hy : ys[i]? = some y) (h : ¬ x = y) : false = decide (xs = ys) := by
 symm; rw [decide_eq_false_iff_not]; intro e; subst e; rw [hx] at hy; cases hy; exact h rfl
theorem eq_all {k : Nat} (hq : xs.take k = ys.take k) (h1 : ¬ ((xs.length : Nat) : Int) ≠ ((ys.length : Nat) : Int)) (h2 : ¬ (k : Int) < ((xs.length : Nat) : Int)) : true = decide (xs = ys) := by
 symm; rw [decide_eq_true_eq]
 rwa [List.take_of_length_le (by omega), List.take_of_length_le (by omega)] at hq
theorem take_eq_step {β : Type} {xs ys : List β} {k : Nat} {x y : β} (hq : xs.take k = ys.take k) (hx : xs[k]? = some x) (hy : ys[k]? = some y) (h : x = y) : xs.take (k + 1) = ys.take (k + 1) := by
 rw [xAz hx, xAz hy, hq, h]
end
end Go.Proofs.YtlofomkhiefbmaaGreatDoor

namespace Go.Proofs.YtlofomkhiefbmaaGreatDoor
open Go.RowKit
theorem beqB (a b : ByteArray) : (a == b) = decide (a = b) := by
 rw [Bool.eq_iff_iff, decide_eq_true_eq]
 cases a with | mk a => cases b with | mk b =>
 show (a == b) = true ↔ _
 simp
theorem Sl.nil_of {α : Type} {K : Kd α} {C : Gh} {c : Nat} {xs : List α} (h : Sl K C none c xs) : xs = [] := by
 rcases Nat.eq_zero_or_pos xs.length with h0 | h0
 ·exact List.eq_nil_of_length_eq_zero h0
 ·have := h.isSome h0; simp at this
def kLine : Kd Line where
 sz := 2
 R _ x cs := cs = [.string x.text, .bool x.bare]
 len _ _ cs h := by rw [h]; rfl
 one _ _ cs h := by rw [h]; simp [Value.oneCell']
 mono _ _ _ _ _ h := h
def kEdit : Kd Edit where
 sz := 2
 R C x cs := ∃ A c, cs = [.int .i64 x.do_, .slice A x.lines.length c] ∧ Sl kLine C A c x.lines
 len _ _ cs h := by obtain ⟨A, c, h, _⟩ := h; rw [h]; rfl
 one _ _ cs h := by obtain ⟨A, c, h, _⟩ := h; rw [h]; simp [Value.oneCell']
 mono _ _ _ _ hle h := by obtain ⟨A, c, h, h2⟩ := h; exact ⟨A, c, h, h2.mono hle⟩
def kHunk : Kd Hunk where
 sz := 5
 R C x cs := ∃ A c, cs = [.int .i64 x.oldAt, .int .i64 x.old, .int .i64 x.newAt, .int .i64 x.new_, .slice A x.edits.length c] ∧ Sl kEdit C A c x.edits
 len _ _ cs h := by obtain ⟨A, c, h, _⟩ := h; rw [h]; rfl
 one _ _ cs h := by obtain ⟨A, c, h, _⟩ := h; rw [h]; simp [Value.oneCell']
 mono _ _ _ _ hle h := by obtain ⟨A, c, h, h2⟩ := h; exact ⟨A, c, h, h2.mono hle⟩
theorem kSl_mk {α : Type} {K : Kd α} {C : Gh} {A : Option Addr} {c : Nat} {xs : List α} (h : Sl K C A c xs) : (kSl K).R C xs [.slice A xs.length c] := ⟨A, c, rfl, h⟩
theorem kLine_mk {C : Gh} {x : Line} : kLine.R C x [.string x.text, .bool x.bare] := rfl
theorem kEdit_mk {C : Gh} {x : Edit} {A : Option Addr} {c : Nat} (h : Sl kLine C A c x.lines) : kEdit.R C x [.int .i64 x.do_, .slice A x.lines.length c] := ⟨A, c, rfl, h⟩
theorem kHunk_mk {C : Gh} {x : Hunk} {A : Option Addr} {c : Nat} (h : Sl kEdit C A c x.edits) : kHunk.R C x [.int .i64 x.oldAt, .int .i64 x.old, .int .i64 x.newAt, .int .i64 x.new_, .slice A x.edits.length c] := ⟨A, c, rfl, h⟩
section
variable {P : Program} {ρ : Operand → Value} {d : Option Tmp} {ty : TypeId} {pos : String} {af : Array Edge} {gd : Option (Nat × Bool)} {w : World} {x y : Operand} {t t' : TypeId}
theorem equal_at {t : TypeId} {x y : Value} : Op.equal t x y = Op.equalIn (9999 + 1) t x y := rfl
theorem equalIn_nil {d : Nat} {e : TypeId} {A : Option Addr} {n c : Nat} (hu : ∀ w, (underlying t).run P w = .ok (.slice e) w) : (Op.equalIn (d + 1) t (.slice A n c) (.slice none 0 0)).run P w = .ok A.isNone w := by
 cases A <;> simp [Op.equalIn, hu]
theorem r_eqlNil {e : TypeId} {A : Option Addr} {n c : Nat} (hu : ∀ w, (underlying t).run P w = .ok (.slice e) w) (hx : ρ x = .slice A n c) (hy : ρ y = .slice none 0 0) :
  (execOp ρ ⟨d, .binOp .eql t x y t', ty, pos, af, gd⟩).run P w = .ok (.value (.bool A.isNone)) w := by
 simp only [execOp, hx, hy, eqGuard, binOp, equal_at, Sem.run_bind, equalIn_nil hu]
 simp
theorem r_eqAgg {a b : Array Value} {r : Bool} (hm : P.eqGuardType P.depth t = false) (he : ∀ w, (Op.equal t (.agg a) (.agg b)).run P w = .ok r w) (hx : ρ x = .agg a) (hy : ρ y = .agg b) :
  (execOp ρ ⟨d, .binOp .eql t x y t', ty, pos, af, gd⟩).run P w = .ok (.value (.bool r)) w := by
 simp [execOp, hx, hy, run_eqGuard_agg (P := P) _ _ t x y a b hm, binOp, he]
theorem r_neqAgg {a b : Array Value} {r : Bool} (hm : P.eqGuardType P.depth t = false) (he : ∀ w, (Op.equal t (.agg a) (.agg b)).run P w = .ok r w) (hx : ρ x = .agg a) (hy : ρ y = .agg b) :
  (execOp ρ ⟨d, .binOp .neq t x y t', ty, pos, af, gd⟩).run P w = .ok (.value (.bool (!r))) w := by
 simp [execOp, hx, hy, run_eqGuard_agg (P := P) _ _ t x y a b hm, binOp, he]
end
section
variable {P : Program} {d : Nat} {xs ys : Array Value} {f : Field} {fs : List Field} {a b : Value} {r s : Bool} {w : World}
theorem eqf_last (hn : (f.name == "_") = false) (ha : (part f.type xs f.offset).run P w = .ok a w) (hb : (part f.type ys f.offset).run P w = .ok b w) (he : (Op.equalIn d f.type a b).run P w = .ok r w) : (Op.eqFields d xs ys [f]).run P w = .ok r w := by
 have hn' : f.name ≠ "_" := by simpa using hn
 simp only [Op.eqFields, if_pos hn', Sem.run_bind, ha, hb, he, Result.andThen_ok]
 cases r <;> simp
theorem eqf_cons (hn : (f.name == "_") = false) (ha : (part f.type xs f.offset).run P w = .ok a w) (hb : (part f.type ys f.offset).run P w = .ok b w) (he : (Op.equalIn d f.type a b).run P w = .ok r w) (hr : (Op.eqFields d xs ys fs).run P w = .ok s w) : (Op.eqFields d xs ys (f :: fs)).run P w = .ok (r && s) w := by
 have hn' : f.name ≠ "_" := by simpa using hn
 rw [Op.eqFields]
 simp only [if_pos hn', Sem.run_bind, ha, hb, he, Result.andThen_ok]
 cases r
 ·simp
 ·simpa using hr
theorem eqA_of {t : TypeId} {fs : Array Field} (hu : P.underlying t = some (.struct fs)) (hp : P.stoodInHeld t = false) (h : (Op.eqFields d xs ys fs.toList).run P w = .ok r w) : (Op.equalIn (d + 1) t (.agg xs) (.agg ys)).run P w = .ok r w := by
 have hf : P.fieldsOf t = fs := by simp [Program.fieldsOf, hu]
 rw [run_equalIn_struct (P := P) w d t xs ys (by rw [hf]; exact hu) hp, hf]
 exact h
theorem eq_int {t : TypeId} {k k' : IntKind} {a b : Int} (hu : ∀ w, (underlying t).run P w = .ok (.int k') w) : (Op.equalIn (d + 1) t (.int k a) (.int k b)).run P w = .ok (decide (a = b)) w := by
 have : (a == b) = decide (a = b) := rfl
 simp [Op.equalIn, hu, this]
theorem eq_bool {t : TypeId} {a b : Bool} (hu : ∀ w, (underlying t).run P w = .ok .bool w) : (Op.equalIn (d + 1) t (.bool a) (.bool b)).run P w = .ok (decide (a = b)) w := by
 have : (a == b) = decide (a = b) := by cases a <;> cases b <;> rfl
 simp [Op.equalIn, hu, this]
theorem eq_str {t : TypeId} {a b : ByteArray} (hu : ∀ w, (underlying t).run P w = .ok .string w) : (Op.equalIn (d + 1) t (.string a) (.string b)).run P w = .ok (decide (a = b)) w := by
 simp [Op.equalIn, hu, beqB]
theorem part1 {t : TypeId} {cs : Array Value} {o : Nat} {v : Value} (ha : ∀ w, (isAgg t).run P w = .ok false w) (hv : cs[o]? = some v) : (part t cs o).run P w = .ok v w := by
 simp [part, ha, hv]
end
end Go.Proofs.YtlofomkhiefbmaaGreatDoor

namespace Go.Proofs.YtlofomkhiefbmaaGreatDoor
open Go.ChangeShapes Go.WideShapes Go.ChangeAt Go.RowKit Go.Deep
def allC (w : World) : Gh := fun b o => w.cell? ⟨b, o, none⟩
theorem has_all (w : World) : Has w (allC w) := fun _ _ _ h => h
section
variable {H : Type} {enc : TypeId × Value → H} {P : Program} {w : World} {base : Nat} {spare : Nat → Bool} {held : Bool}
theorem seg_all {a : Addr} {n : Nat} {cs : List Value} (hn : 0 < n) (h : w.cells? base a n = some cs) : ∃ g o, a = ⟨g, o, none⟩ ∧ cs.length = n ∧ Seg (allC w) g o cs := by
 obtain ⟨_, hl, hc⟩ := World.cells?_some h
 obtain ⟨g, o, s⟩ := a
 have h0 := hc 0 hn
 rw [List.getElem?_eq_getElem (by omega)] at h0
 have hs : s = none := by simpa [Addr.add] using World.cell?_spot h0
 subst hs
 refine ⟨g, o, rfl, hl, fun i v hv => ?_⟩
 have hi : i < n := by have := (List.getElem?_eq_some_iff.1 hv).1; omega
 have := hc i hi
 rw [xAu] at this
 simp only [allC, this]
 exact hv
theorem open_sl {α : Type} [Inhabited α] (K : Kd α) {t e : TypeId} {fuel : Nat} {A : Option Addr} {len cap : Nat} {x : DataW H × List MemPlace} (ht : P.underlying t = some (.slice e)) (hsz : P.cellsOf e = K.sz) (hpos : 0 < K.sz)
  (hel : ∀ (n : Nat) (cs : List Value) (y : DataW H × List MemPlace), cs.length = K.sz → DataW.trod enc P w base spare held n e cs = some y → ∃ q, K.R (allC w) q cs)
  (hbd : len ≤ 140737488355328) (h : DataW.trod enc P w base spare held fuel t [.slice A len cap] = some x) : ∃ xs : List α, xs.length = len ∧ Sl K (allC w) A cap xs := by
 rcases open_slice ht h with ⟨h0, _⟩ | ⟨a, len', cap', m, n, D, Pl, hcs, hb, hl, hm, hmm, _, hx⟩
 ·simp only [List.cons.injEq, Value.slice.injEq, and_true] at h0
  obtain ⟨rfl, rfl, rfl⟩ := h0
  exact ⟨[], rfl, Sl.nil _ _ _ _⟩
 ·simp only [List.cons.injEq, Value.slice.injEq, and_true] at hcs
  obtain ⟨rfl, rfl, rfl⟩ := hcs
  have hlm : len ≤ m := by rw [hmm]; split <;> omega
  have each : ∀ i, i < len → ∃ q : α, ∃ cs, K.R (allC w) q cs ∧ CellsG (allC w) (some a) (i * K.sz) cs := by
   intro i hi
   obtain ⟨c0, k1, _⟩ := hx 0 (by omega)
   rw [hsz, Nat.zero_mul] at k1
   obtain ⟨g0, o0, ha0, _, _⟩ := seg_all hpos k1
   simp only [Addr.add, if_true] at ha0
   subst ha0
   obtain ⟨cs', h1, h2⟩ := hx i (by omega)
   rw [hsz] at h1
   obtain ⟨g, o, ha, hcl, hsg⟩ := seg_all hpos h1
   obtain ⟨q, hq⟩ := hel _ _ _ hcl h2
   rw [xAu] at ha
   cases ha
   exact ⟨q, cs', hq, g0, o0, rfl, hsg⟩
  obtain ⟨f, hf⟩ := choose_lt each
  refine ⟨(List.range len).map f, by simp, by simpa using hl, by simpa using hbd, fun j y hj => ?_⟩
  have hjl : j < len := by have := (List.getElem?_eq_some_iff.1 hj).1; simpa using this
  have : y = f j := by simpa [hjl] using hj.symm
  subst this
  exact hf j hjl
end
theorem el_line {H : Type} {enc : TypeId × Value → H} {P : Program} {w : World} {base : Nat} {spare : Nat → Bool} {held : Bool} {e : TypeId} {f0 f1 : Field} (hu : P.underlying e = some (.struct #[f0, f1])) (u0 : P.underlying f0.type = some .string) (u1 : P.underlying f1.type = some .bool) (o0 : P.cellsOf f0.type = 1) (o1 : P.cellsOf f1.type = 1) (of0 : f0.offset = 0) (of1 : f1.offset = 1)
  (n : Nat) (cs : List Value) (y : DataW H × List MemPlace) (hl : cs.length = kLine.sz) (h : DataW.trod enc P w base spare held n e cs = some y) : ∃ q, kLine.R (allC w) q cs := by
 obtain ⟨y0, y1, k, hxy, _, h0, h1⟩ := trod_struct2 hu h
 match cs, hl with
 | [v0, v1], _ =>
  rw [o0, of0] at h0
  rw [o1, of1] at h1
  simp only [List.drop, List.take] at h0 h1
  obtain ⟨s, e0, _⟩ := DataW.trod_string u0 h0
  obtain ⟨b, e1, _⟩ := DataW.trod_bool u1 h1
  simp only [List.cons.injEq, and_true] at e0 e1
  subst e0 e1
  exact ⟨⟨s, b⟩, rfl⟩
end Go.Proofs.YtlofomkhiefbmaaGreatDoor

namespace Go.Proofs.YtlofomkhiefbmaaGreatDoor
open Go.RowKit
def MRow (B e sz : Nat) (w : World) (C : Gh) (A : Option Addr) (c : Nat) (rows : List (List Value)) : Prop :=
 (A = none ∧ c = 0 ∧ rows = []) ∨ ∃ g spare, A = some ⟨g, 0, none⟩ ∧ B ≤ g ∧ St w C g (rows.flatten ++ spare) e ∧ rows.length ≤ c ∧ c ≤ 9223372036854775807 ∧ (rows.flatten ++ spare).length = c * sz ∧ ∀ r ∈ rows, r.length = sz ∧ ∀ v ∈ r, v.oneCell' = true
theorem MRow.nil {B e sz : Nat} {w : World} {C : Gh} : MRow B e sz w C none 0 [] := .inl ⟨rfl, rfl, rfl⟩
theorem MRow.call {B e sz : Nat} {w w' : World} {C C' : Gh} {A : Option Addr} {c : Nat} {rows : List (List Value)} (h : MRow B e sz w C A c rows) (x : Ext w.heap.size w C w' C') : MRow B e sz w' C' A c rows := by
 rcases h with h | ⟨g, spare, h1, h2, h3, h4⟩
 ·exact .inl h
 ·exact .inr ⟨g, spare, h1, h2, h3.call x, h4⟩
theorem MRow.drew {B e sz : Nat} {w : World} {C : Gh} {A : Option Addr} {c : Nat} {rows : List (List Value)} (h : MRow B e sz w C A c rows) : MRow B e sz w.drew C A c rows := by
 rcases h with h | ⟨g, spare, h1, h2, h3, h4⟩
 ·exact .inl h
 ·exact .inr ⟨g, spare, h1, h2, h3.drew, h4⟩
theorem St.ne_type {w : World} {C C1 : Gh} {g g' : Nat} {cs cs' : List Value} {t t' : TypeId} (h : St w C g cs t) (h' : St w C1 g' cs' t') (hne : t ≠ t') : g ≠ g' := fun e => by
 subst e
 have := h.blk.symm.trans h'.blk
 simp only [Option.some.injEq, Obj.cells.injEq] at this
 exact hne this.2.1
theorem Own.nbT {B e sz : Nat} {w : World} {C C1 : Gh} {A : Option Addr} {n c g : Nat} {cs : List Value} {t : TypeId} (h : Own B e sz w C A n c) (st : St w C1 g cs t) (hne : e ≠ t) : Nb A n c g := fun hl a ha => by
 obtain ⟨g', o, cs', h1, _, h3, _⟩ := h.sp hl
 rw [h1] at ha
 cases ha
 intro e'
 simp only at e'
 subst e'
 have := h3.symm.trans st.blk
 simp only [Option.some.injEq, Obj.cells.injEq] at this
 exact hne this.2.1
theorem MRow.other {B e sz : Nat} {w w' : World} {C C' : Gh} {A : Option Addr} {c g : Nat} {rows : List (List Value)} {cs : List Value} {t : TypeId} (h : MRow B e sz w C A c rows) (m : Mut g w C w' C') (st : St w C g cs t) (hne : e ≠ t) : MRow B e sz w' C' A c rows := by
 rcases h with h | ⟨g', spare, h1, h2, h3, h4⟩
 ·exact .inl h
 ·exact .inr ⟨g', spare, h1, h2, h3.other m (h3.ne_type st hne), h4⟩
theorem MRow.app {B B2 e e2 sz sz2 : Nat} {w w' : World} {C C' : Gh} {A A2 A' : Option Addr} {c n2 c2 n' c' : Nat} {rows : List (List Value)} (h : MRow B e sz w C A c rows) (m : App A2 n2 c2 w C A' n' c' w' C') (ho : Own B2 e2 sz2 w C A2 n2 c2) (hne : e2 ≠ e) : MRow B e sz w' C' A c rows := by
 rcases h with h | ⟨g', spare, h1, h2, h3, h4⟩
 ·exact .inl h
 ·exact .inr ⟨g', spare, h1, h2, h3.app m (ho.nbT h3 hne), h4⟩
theorem flatten_at {rows : List (List Value)} {sz : Nat} (hs : ∀ r ∈ rows, r.length = sz) {i j : Nat} {r : List Value} {v : Value} (hi : rows[i]? = some r) (hj : r[j]? = some v) : rows.flatten[i * sz + j]? = some v := by
 induction rows generalizing i with
 | nil => simp at hi
 | cons r0 rows ih =>
  have h0 := hs r0 (by simp)
  cases i with
  | zero =>
   simp only [List.getElem?_cons_zero, Option.some.injEq] at hi
   subst hi
   have : j < r0.length := (List.getElem?_eq_some_iff.1 hj).1
   rw [List.flatten_cons, Nat.zero_mul, Nat.zero_add, List.getElem?_append_left this]
   exact hj
  | succ i =>
   simp only [List.getElem?_cons_succ] at hi
   rw [List.flatten_cons, List.getElem?_append_right (by rw [h0, Nat.succ_mul]; omega), h0, show (i + 1) * sz + j - sz = i * sz + j by rw [Nat.succ_mul]; omega]
   exact ih (fun r hr => hs r (by simp [hr])) hi
theorem flatten_len {rows : List (List Value)} {sz : Nat} (hs : ∀ r ∈ rows, r.length = sz) : rows.flatten.length = rows.length * sz := by
 induction rows with
 | nil => simp
 | cons r rows ih => rw [List.flatten_cons, List.length_append, hs r (by simp), ih (fun r hr => hs r (by simp [hr])), List.length_cons, Nat.succ_mul]; omega
theorem MRow.len {B e sz : Nat} {w : World} {C : Gh} {A : Option Addr} {c : Nat} {rows : List (List Value)} (h : MRow B e sz w C A c rows) : rows.length ≤ c := by
 rcases h with ⟨_, _, rfl⟩ | ⟨g, spare, _, _, _, h, _⟩
 ·simp
 ·exact h
theorem MRow.isSome {B e sz : Nat} {w : World} {C : Gh} {A : Option Addr} {c : Nat} {rows : List (List Value)} (h : MRow B e sz w C A c rows) (hn : 0 < rows.length) : A.isSome = true := by
 rcases h with ⟨_, _, rfl⟩ | ⟨g, spare, rfl, _⟩
 ·simp at hn
 ·rfl
theorem MRow.at_ {B e sz : Nat} {w : World} {C : Gh} {A : Option Addr} {c : Nat} {rows : List (List Value)} (h : MRow B e sz w C A c rows) {i : Nat} {r : List Value} (hi : rows[i]? = some r) :
  ∃ g cs, A = some ⟨g, 0, none⟩ ∧ B ≤ g ∧ St w C g cs e ∧ ∀ j v, r[j]? = some v → cs[i * sz + j]? = some v := by
 rcases h with ⟨_, _, rfl⟩ | ⟨g, spare, h1, h2, h3, h4, h5, h6, h7⟩
 ·simp at hi
 ·refine ⟨g, _, h1, h2, h3, fun j v hj => ?_⟩
  have := flatten_at (fun r hr => (h7 r hr).1) hi hj
  rw [List.getElem?_append_left (List.getElem?_eq_some_iff.1 this).1]
  exact this
section
variable {P : Program} {ρ : Operand → Value} {d : Option Tmp} {ty : TypeId} {pos : String} {af : Array Edge} {gd : Option (Nat × Bool)} {w : World}
theorem r_loadM1 {x : Operand} {t : TypeId} {B e sz : Nat} {C : Gh} {A : Option Addr} {c i j : Nat} {rows : List (List Value)} {r : List Value} {v : Value} (ha : ∀ w, (isAgg t).run P w = .ok false w) (h : MRow B e sz w C A c rows) (hi : rows[i]? = some r) (hj : r[j]? = some v)
  (hx : ρ x = ptrAt A (i * sz + j)) : (execOp ρ ⟨d, .load t x, ty, pos, af, gd⟩).run P w = .ok (.value v) w := by
 obtain ⟨g, cs, rfl, _, h3, h4⟩ := h.at_ hi
 exact xAV ha (a := ⟨g, 0 + (i * sz + j), none⟩) (by rw [hx]; simp [ptrAt, xAu]) (by rw [Nat.zero_add]; exact h3.cell (h4 j v hj))
theorem SS.mrow {C C1 : Gh} {M : Nat → Prop} {WS w' : World} {B e sz : Nat} {A : Option Addr} {c : Nat} {rows : List (List Value)} (h : SS C M WS w') (m : MRow B e sz WS C1 A c rows) (hM : ∀ g cs, St WS C1 g cs e → M g) : MRow B e sz w' (fun _ _ => none) A c rows := by
 rcases m with m | ⟨g, spare, h1, h2, h3, h4⟩
 ·exact .inl m
 ·exact .inr ⟨g, spare, h1, h2, ⟨(h.blk g h3.lt (hM g _ h3)).trans h3.blk, fun _ => rfl⟩, h4⟩
theorem putAt_len {cs vs : List Value} {o : Nat} (h : o + vs.length ≤ cs.length) : (putAt cs o vs).length = cs.length := by
 simp [putAt]; omega
theorem putAt_app {cs ds vs : List Value} {o : Nat} (h : o + vs.length ≤ cs.length) : putAt (cs ++ ds) o vs = putAt cs o vs ++ ds := by
 simp only [putAt]
 rw [List.take_append_of_le_length (by omega), List.drop_append_of_le_length (by omega)]
 simp
theorem putAt_right {cs ds vs : List Value} {o : Nat} : putAt (cs ++ ds) (cs.length + o) vs = cs ++ putAt ds o vs := by
 simp only [putAt]
 rw [List.take_append, List.take_of_length_le (by omega), show cs.length + o - cs.length = o by omega, List.drop_append, List.drop_eq_nil_of_le (by omega), show cs.length + o + vs.length - cs.length = o + vs.length by omega]
 simp
theorem flatten_put {rows : List (List Value)} {sz : Nat} (hs : ∀ r ∈ rows, r.length = sz) {i j : Nat} {r vs : List Value} (hi : rows[i]? = some r) (hj : j + vs.length ≤ sz) : putAt rows.flatten (i * sz + j) vs = (rows.set i (putAt r j vs)).flatten := by
 induction rows generalizing i with
 | nil => simp at hi
 | cons r0 rows ih =>
  have h0 := hs r0 (by simp)
  cases i with
  | zero =>
   simp only [List.getElem?_cons_zero, Option.some.injEq] at hi
   subst hi
   rw [List.flatten_cons, Nat.zero_mul, Nat.zero_add, putAt_app (by omega)]
   simp
  | succ i =>
   simp only [List.getElem?_cons_succ] at hi
   have := ih (fun r hr => hs r (by simp [hr])) hi
   rw [List.flatten_cons, show (i + 1) * sz + j = r0.length + (i * sz + j) by rw [h0, Nat.succ_mul]; omega, putAt_right, this]
   simp
theorem r_storeM {t : TypeId} {x p : Operand} {B e sz : Nat} {C : Gh} {A : Option Addr} {c i j n : Nat} {rows : List (List Value)} {r vs : List Value} {v : Value} (hs : ∀ w, (sizeOf t).run P w = .ok n w) (hn : vs.length = n) (h : MRow B e sz w C A c rows) (hi : rows[i]? = some r) (hj : j + vs.length ≤ sz) (hH : Has w C)
  (hp : ρ p = ptrAt A (i * sz + j)) (hx : ρ x = v) (hv : v.cells = vs.toArray) (h1 : (vs.all fun u => u.oneCell') = true) :
  ∃ g w', (execOp ρ ⟨d, .store t p x, ty, pos, af, gd⟩).run P w = .ok .skip w' ∧ Mut g w C w' C ∧ MRow B e sz w' C A c (rows.set i (putAt r j vs)) ∧ B ≤ g ∧ ∃ cs, St w C g cs e := by
 rcases h with ⟨_, _, rfl⟩ | ⟨g, spare, rfl, h2, h3, h4, h5, h6, h7⟩
 ·simp at hi
 have hsz : ∀ r ∈ rows, r.length = sz := fun r hr => (h7 r hr).1
 have hil : i < rows.length := (List.getElem?_eq_some_iff.1 hi).1
 have hfl := flatten_len hsz
 have hle : i * sz + j + vs.length ≤ rows.flatten.length := by
  rw [hfl]
  have : (i + 1) * sz ≤ rows.length * sz := Nat.mul_le_mul_right _ hil
  rw [Nat.succ_mul] at this
  omega
 obtain ⟨w', k1, k2, k3⟩ := r_storeSt (P := P) (ρ := ρ) (d := d) (ty := ty) (pos := pos) (af := af) (gd := gd) (o := i * sz + j) hs hn h3 hH (by rw [hp]; simp [ptrAt, xAu]) hx hv h1 (by rw [List.length_append]; omega)
 refine ⟨g, w', k1, k2, .inr ⟨g, spare, rfl, h2, ?_, by simpa using h4, h5, ?_, fun r' hr' => ?_⟩, h2, _, h3⟩
 ·rw [putAt_app hle, flatten_put hsz hi hj] at k3
  exact k3
 ·rw [← flatten_put hsz hi hj, List.length_append, putAt_len hle, ← List.length_append]
  exact h6
 ·rcases List.mem_or_eq_of_mem_set hr' with hr' | rfl
  ·exact h7 r' hr'
  ·have hr := h7 r (List.mem_of_getElem? hi)
   refine ⟨by rw [putAt_len (by omega)]; exact hr.1, fun u hu => ?_⟩
   simp only [putAt, List.mem_append] at hu
   rcases hu with (hu | hu) | hu
   ·exact hr.2 u (List.mem_of_mem_take hu)
   ·simp only [List.all_eq_true] at h1; exact h1 u hu
   ·exact hr.2 u (List.mem_of_mem_drop hu)
theorem r_appendM {α : Type} {K : Kd α} {C : Gh} {B e t : Nat} {ie : TypeInfo} {z : Value} {sz bytes : Nat} {A A2 : Option Addr} {c c2 : Nat} {rows : List (List Value)} {r : List Value} {y : α} {x x2 : Operand}
  (ht : P.underlying t = some (.slice e)) (hi : P.info? e = some ie) (hz : ie.zero = some z) (hsz : ie.size = sz) (hby : ie.bytes = bytes) (hzs : z.cells.size = sz) (hpos : Nat.blt 0 sz = true) (hKs : K.sz = sz)
  (hx : ρ x = .slice A rows.length c) (hy : ρ x2 = .slice A2 1 c2) (h : MRow B e sz w C A c rows) (hg : CellsG C A2 0 r) (hr : K.R C y r) (hH : Has w C) (hB : B ≤ w.heap.size) (hb : (rows.length + 1) * bytes ≤ 140737488355328) (hlen : rows.length + 1 ≤ 140737488355328) :
  ∃ A' c' w', (execOp ρ ⟨d, .call { callee := .builtin .append, args := #[x, x2], argTypes := #[t, t] }, ty, pos, af, gd⟩).run P w = .ok (.value (.slice A' (rows ++ [r]).length c')) w' ∧ MRow B e sz w' C A' c' (rows ++ [r]) ∧
   Ext B w C w' C ∧ (∀ k cs t', St w C k cs t' → t' ≠ e → St w' C k cs t') ∧ (∀ B2 e2 sz2 A3 n3 c3, Own B2 e2 sz2 w C A3 n3 c3 → e2 ≠ e → Own B2 e2 sz2 w' C A3 n3 c3) ∧ (∀ k, k < w.heap.size → (∀ cs, ¬ St w C k cs e) → w'.heap[k]? = w.heap[k]?) := by
 have hp := lt_of_blt hpos
 obtain ⟨g2, o2, rfl, hseg⟩ := hg
 have hrl := K.len _ _ _ hr
 have hnews : ∀ j u, r[j]? = some u → w.cell? ((⟨g2, o2, none⟩ : Addr).add j) = some u := fun j u hj => by
  rw [xAu]; have := hseg j u hj; rw [Nat.add_zero] at this; exact hH _ _ _ this
 -- as the kit's own row
 have hown : w.ownsRow B e sz (.slice A rows.length c) rows.length rows.flatten := by
  rcases h with ⟨rfl, rfl, rfl⟩ | ⟨g, spare, rfl, h2, h3, h4, h5, h6, h7⟩
  ·exact World.ownsRow_nil _ _ _ _
  ·have hfl := flatten_len (fun r hr => (h7 r hr).1)
   exact ⟨hfl, .inr ⟨g, c, _, rfl, h2, h3.blk, h4, by simp only [maxLen]; omega, by simpa using h6, by rw [← hfl]; simp⟩⟩
 obtain ⟨v', w', hrun, hown', hgr, _, hat⟩ := run_append_own_at (P := P) w B t ty e ie z sz bytes ht hi hz hsz hby hzs hp (.slice A rows.length c) rows.length rows.flatten hown ⟨g2, o2, none⟩ 1 c2 r (by rw [hrl, hKs]; omega) hnews (K.one _ _ _ hr) (by simp only [maxLen]; omega) hb hB
 have hblk : ∀ k, (Value.slice A rows.length c).ownBlock = some k → B ≤ k ∧ ∃ cs, St w C k cs e := by
  intro k hk
  rcases h with ⟨rfl, rfl, rfl⟩ | ⟨g, spare, rfl, h2, h3, _⟩
  ·simp [Value.ownBlock] at hk
  ·simp [Value.ownBlock] at hk
   subst hk
   exact ⟨h2, _, h3⟩
 have hne : ∀ k cs t', St w C k cs t' → t' ≠ e → some k ≠ (Value.slice A rows.length c).ownBlock := fun k cs t' hs hne' he => by
  obtain ⟨_, cs', hs'⟩ := hblk k he.symm
  exact hs.ne_type hs' hne' rfl
 have hHas : Has w' C := fun b o v hv => by
  refine (World.cell?_of_block (w := w) (hgr.block b (hH.lt hv) (fun he => ?_))).trans (hH _ _ _ hv)
  obtain ⟨_, cs', hs'⟩ := hblk b he.symm
  rw [hs'.un o] at hv
  cases hv
 obtain ⟨hl', hform⟩ := hown'
 rcases hform with ⟨_, hn0⟩ | ⟨g, cap, cur, rfl, hgB, hg', hnc, hcm, hcs, htake⟩
 ·omega
 have hun : ∀ o, C g o = none := fun o => by
  rcases hat with hat | hat
  ·obtain ⟨_, cs', hs'⟩ := hblk g (by rw [← hat]; rfl)
   exact hs'.un o
  ·have : g = w.heap.size := by simpa [Value.ownBlock] using hat
   exact hH.none o (by omega)
 have hrows : ∀ r' ∈ rows ++ [r], r'.length = sz ∧ ∀ v ∈ r', v.oneCell' = true := fun r' hr' => by
  rcases List.mem_append.1 hr' with hr' | hr'
  ·rcases h with ⟨_, _, rfl⟩ | ⟨g, spare, rfl, h2, h3, h4, h5, h6, h7⟩
   ·simp at hr'
   ·exact h7 r' hr'
  ·simp only [List.mem_singleton] at hr'
   subst hr'
   exact ⟨by rw [hrl, hKs], K.one _ _ _ hr⟩
 refine ⟨some ⟨g, 0, none⟩, cap, w', ?_, .inr ⟨g, cur.toList.drop ((rows.length + 1) * sz), rfl, hgB, ⟨?_, hun⟩, ?_, ?_, ?_, hrows⟩, ?_, fun k cs t' hs hne' => ?_, fun B2 e2 sz2 A3 n3 c3 ho3 hne3 => ?_, fun k hk hn => hgr.block k hk fun he => ?_⟩
 ·rw [List.length_append]
  simp [execOp, resolve, invoke, builtin, hx, hy, hrun]
 ·rw [hg']
  have : (rows ++ [r]).flatten = rows.flatten ++ r := by simp
  rw [this, ← htake, List.take_append_drop]
 ·rw [List.length_append]; exact hnc
 ·simpa only [maxLen] using hcm
 ·have : (rows ++ [r]).flatten = rows.flatten ++ r := by simp
  rw [this, ← htake, List.take_append_drop]
  simpa using hcs
 ·exact ⟨⟨hgr.os, hgr.tape, hgr.output, hgr.size, fun k hk => hgr.block k (by omega) (fun he => by have := (hblk k he.symm).1; omega)⟩, hHas, Gle.refl _, fun _ _ _ => rfl⟩
 ·exact ⟨(hgr.block k hs.lt (hne k cs t' hs hne')).trans hs.blk, hs.un⟩
 ·refine ⟨ho3.le, fun hl => ?_⟩
  obtain ⟨g3, o3, cs3, k1, k2, k3, k4⟩ := ho3.sp hl
  refine ⟨g3, o3, cs3, k1, k2, (hgr.block g3 (blk_lt' k3) (fun he => ?_)).trans k3, k4⟩
  obtain ⟨_, cs', hs'⟩ := hblk g3 he.symm
  have := k3.symm.trans hs'.blk
  simp only [Option.some.injEq, Obj.cells.injEq] at this
  exact hne3 this.2.1
 ·obtain ⟨_, cs', hs'⟩ := hblk k he.symm
  exact hn _ hs'
theorem MRow.toSl {α : Type} {K : Kd α} {B e sz : Nat} {w : World} {C : Gh} {A : Option Addr} {c : Nat} {rows : List (List Value)} {xs : List α} (h : MRow B e sz w C A c rows) (hK : K.sz = sz) (hr : RowR K C xs rows.flatten) (hl : rows.length = xs.length) (hb : xs.length ≤ 140737488355328) (hH : Has w C) (hB : B ≤ w.heap.size) :
  ∃ C', Ext B w C w C' ∧ Sl K C' A c xs ∧ (∀ k cs t, St w C k cs t → t ≠ e → St w C' k cs t) := by
 rcases h with ⟨rfl, rfl, rfl⟩ | ⟨g, spare, rfl, h2, h3, h4, h5, h6, h7⟩
 ·have : xs = [] := List.eq_nil_of_length_eq_zero (by rw [← hl]; rfl)
  subst this
  exact ⟨C, Ext.refl hH, Sl.nil _ _ _ _, fun k cs t hs _ => hs⟩
 ·have hle : Gle C (commit C g 0 rows.flatten) := commit_le fun k _ _ => h3.un k
  refine ⟨commit C g 0 rows.flatten, ⟨Below.refl _ _, commit_has hH fun i v hv => ?_, hle, fun b o hbB => commit_ne _ _ _ (by omega) _⟩, Sl.of_row (hr.mono hle) (commit_seg _ _ _ _) (by omega) hb, fun k cs t hs hne => ⟨hs.blk, fun o => ?_⟩⟩
  ·refine h3.cell ?_
   rw [Nat.zero_add, List.getElem?_append_left (List.getElem?_eq_some_iff.1 hv).1]
   exact hv
  ·rw [commit_ne _ _ _ (hs.ne_type h3 hne)]
   exact hs.un o
end
def NotT (e : Nat) (WS : World) (k : Nat) : Prop := ∀ cs C1, ¬ St WS C1 k cs e
theorem SS.appM {C C1 C2 : Gh} {e : Nat} {WS w w2 : World} {B : Nat} (h : SS C (NotT e WS) WS w) (ex : Ext B w C1 w2 C2) (hH : Has w2 C2) (hle : Gle C C2) (ho : ∀ k, k < w.heap.size → (∀ cs, ¬ St w C1 k cs e) → w2.heap[k]? = w.heap[k]?) : SS C (NotT e WS) WS w2 :=
 ⟨fun b o v hv => hH b o v (hle b o v hv), Nat.le_trans h.size ex.below.size, fun k hk hm => (ho k (Nat.lt_of_lt_of_le hk h.size) fun cs hs => hm cs C1 ⟨(h.blk k hk hm).symm.trans hs.blk, hs.un⟩).trans (h.blk k hk hm)⟩
theorem St.notT {WS : World} {C : Gh} {g : Nat} {cs : List Value} {t e : Nat} (h : St WS C g cs t) (hne : t ≠ e) : NotT e WS g := fun _ _ h' => h.ne_type h' hne rfl
theorem set_last {rows : List (List Value)} {r r' : List Value} {i : Nat} (h : i = rows.length) : (rows ++ [r]).set i r' = rows ++ [r'] := by
 subst h
 rw [List.set_append_right _ _ (Nat.le_refl _)]
 simp
theorem last_at {rows : List (List Value)} {r : List Value} {i : Nat} (h : i = rows.length) : (rows ++ [r])[i]? = some r := by
 subst h; simp
section
variable {D : List Deferred} {P : Program} {N : Nat} {Q : Exit → Fr → World → Prop} {T : Fr} {w : World} {ops : Array Oper} {S : World → Prop} {zs : List Nat} {i : Nat} {o : Oper} {C : Gh}
section
variable {t B e sz c ix j n : Nat} {x p : Operand} {A : Option Addr} {rows rows' : List (List Value)} {r vs : List Value} {v : Value}
theorem FWl.storeM {l : List Oper} (ho : o.op = .store t p x) (hd : o.dst = none) (hw : wantedF ops T o = true) (hs : ∀ w, (sizeOf t).run P w = .ok n w) (hn : vs.length = n) (h : MRow B e sz w C A c rows) (hi : rows[ix]? = some r) (hj : Nat.ble (j + vs.length) sz = true) (hH : Has w C)
  (hp : ev T p = ptrAt A (ix * sz + j)) (hx : ev T x = v) (hv : v.cells = vs.toArray) (h1 : (vs.all fun u => u.oneCell') = true) (hr : rows.set ix (putAt r j vs) = rows')
  (k : ∀ g w' cs, Mut g w C w' C → MRow B e sz w' C A c rows' → B ≤ g → St w C g cs e → FWl D P N ops Q l T w') : FWl D P N ops Q (o :: l) T w := by
 obtain ⟨dst, op, ty, pos, af, gd⟩ := o; cases ho
 obtain ⟨g, w', k1, k2, k3, k4, cs, k5⟩ := r_storeM (P := P) (ρ := ev T) (d := dst) (ty := ty) (pos := pos) (af := af) (gd := gd) hs hn h hi (Nat.le_of_ble_eq_true hj) hH hp hx hv h1
 exact FWl.unit hd hw _ k1 (k g w' cs k2 (hr ▸ k3) k4 k5)
theorem FWs.storeM {l : STr} (hio : ops[i]? = some o) (ho : o.op = .store t p x) (hd : o.dst = none) (hw : wantedF ops T o = true) (hs : ∀ w, (sizeOf t).run P w = .ok n w) (hn : vs.length = n) (h : MRow B e sz w C A c rows) (hi : rows[ix]? = some r) (hj : Nat.ble (j + vs.length) sz = true) (hH : Has w C)
  (hp : ev T p = ptrAt A (ix * sz + j)) (hx : ev T x = v) (hv : v.cells = vs.toArray) (h1 : (vs.all fun u => u.oneCell') = true) (hr : rows.set ix (putAt r j vs) = rows')
  (k : ∀ g w' cs, Mut g w C w' C → MRow B e sz w' C A c rows' → B ≤ g → St w C g cs e → (zs.contains i = true ∨ S w') ∧ FWs D P N ops Q S zs l T w') : FWs D P N ops Q S zs (.one i l) T w := by
 obtain ⟨dst, op, ty, pos, af, gd⟩ := o; cases ho
 obtain ⟨g, w', k1, k2, k3, k4, cs, k5⟩ := r_storeM (P := P) (ρ := ev T) (d := dst) (ty := ty) (pos := pos) (af := af) (gd := gd) hs hn h hi (Nat.le_of_ble_eq_true hj) hH hp hx hv h1
 have := k g w' cs k2 (hr ▸ k3) k4 k5
 exact FWs.unit hio hd hw _ k1 this.1 this.2
end
section
variable {α : Type} {K : Kd α} {B e t d : Nat} {ie : TypeInfo} {z : Value} {sz bytes : Nat} {A A2 : Option Addr} {c c2 : Nat} {rows : List (List Value)} {r : List Value} {y : α} {x x2 : Operand}
theorem FWl.appM {l : List Oper} (ho : o.op = .call { callee := .builtin .append, args := #[x, x2], argTypes := #[t, t] }) (hd : o.dst = some d) (hw : wantedF ops T o = true)
  (ht : P.underlying t = some (.slice e)) (hi : P.info? e = some ie) (hz : ie.zero = some z) (hsz : ie.size = sz) (hby : ie.bytes = bytes) (hzs : z.cells.size = sz) (hpos : Nat.blt 0 sz = true) (hKs : K.sz = sz)
  (hx : ev T x = .slice A rows.length c) (hy : ev T x2 = .slice A2 1 c2) (h : MRow B e sz w C A c rows) (hg : CellsG C A2 0 r) (hr : K.R C y r) (hH : Has w C) (hB : B ≤ w.heap.size) (hb : (rows.length + 1) * bytes ≤ 140737488355328) (hlen : rows.length + 1 ≤ 140737488355328)
  (k : ∀ A' c' w', MRow B e sz w' C A' c' (rows ++ [r]) → Ext B w C w' C → (∀ k cs t', St w C k cs t' → t' ≠ e → St w' C k cs t') → (∀ B2 e2 sz2 A3 n3 c3, Own B2 e2 sz2 w C A3 n3 c3 → e2 ≠ e → Own B2 e2 sz2 w' C A3 n3 c3) → (∀ k, k < w.heap.size → (∀ cs, ¬ St w C k cs e) → w'.heap[k]? = w.heap[k]?) →
   FWl D P N ops Q l (upd T d (.slice A' (rows ++ [r]).length c')) w') : FWl D P N ops Q (o :: l) T w := by
 obtain ⟨dst, op, ty, pos, af, gd⟩ := o; cases ho
 obtain ⟨A', c', w', k1, k2, k3, k4, k5, k6⟩ := r_appendM (P := P) (ρ := ev T) (d := dst) (ty := ty) (pos := pos) (af := af) (gd := gd) ht hi hz hsz hby hzs hpos hKs hx hy h hg hr hH hB hb hlen
 exact xAm d hd hw _ _ k1 (k A' c' w' k2 k3 k4 k5 k6)
theorem FWs.appM {l : STr} (hio : ops[i]? = some o) (ho : o.op = .call { callee := .builtin .append, args := #[x, x2], argTypes := #[t, t] }) (hd : o.dst = some d) (hw : wantedF ops T o = true)
  (ht : P.underlying t = some (.slice e)) (hi : P.info? e = some ie) (hz : ie.zero = some z) (hsz : ie.size = sz) (hby : ie.bytes = bytes) (hzs : z.cells.size = sz) (hpos : Nat.blt 0 sz = true) (hKs : K.sz = sz)
  (hx : ev T x = .slice A rows.length c) (hy : ev T x2 = .slice A2 1 c2) (h : MRow B e sz w C A c rows) (hg : CellsG C A2 0 r) (hr : K.R C y r) (hH : Has w C) (hB : B ≤ w.heap.size) (hb : (rows.length + 1) * bytes ≤ 140737488355328) (hlen : rows.length + 1 ≤ 140737488355328)
  (k : ∀ A' c' w', MRow B e sz w' C A' c' (rows ++ [r]) → Ext B w C w' C → (∀ k cs t', St w C k cs t' → t' ≠ e → St w' C k cs t') → (∀ B2 e2 sz2 A3 n3 c3, Own B2 e2 sz2 w C A3 n3 c3 → e2 ≠ e → Own B2 e2 sz2 w' C A3 n3 c3) → (∀ k, k < w.heap.size → (∀ cs, ¬ St w C k cs e) → w'.heap[k]? = w.heap[k]?) →
   (zs.contains i = true ∨ S w') ∧ FWs D P N ops Q S zs l (upd T d (.slice A' (rows ++ [r]).length c')) w') : FWs D P N ops Q S zs (.one i l) T w := by
 obtain ⟨dst, op, ty, pos, af, gd⟩ := o; cases ho
 obtain ⟨A', c', w', k1, k2, k3, k4, k5, k6⟩ := r_appendM (P := P) (ρ := ev T) (d := dst) (ty := ty) (pos := pos) (af := af) (gd := gd) ht hi hz hsz hby hzs hpos hKs hx hy h hg hr hH hB hb hlen
 have := k A' c' w' k2 k3 k4 k5 k6
 exact xBB hio d hd hw _ _ k1 this.1 this.2
end
end
theorem nI {k : IntKind} {a : Int} {v : Value} (h : v = .int k a) : v = .int k a := h
theorem nB {a : Bool} {v : Value} (h : v = .bool a) : v = .bool a := h
theorem nS {a : ByteArray} {v : Value} (h : v = .string a) : v = .string a := h
theorem nL {a : Option Addr} {n c : Nat} {v : Value} (h : v = .slice a n c) : v = .slice a n c := h
theorem nP {a : Option Addr} {v : Value} (h : v = .pointer a) : v = .pointer a := h
theorem nA {a : Array Value} {v : Value} (h : v = .agg a) : v = .agg a := h
theorem nT {a : Array Value} {v : Value} (h : v = .tuple a) : v = .tuple a := h
section
variable {D : List Deferred} {P : Program} {N : Nat} {Q : Exit → Fr → World → Prop} {T : Fr} {w : World} {ops : Array Oper} {l : List Oper} {d id : Nat} {ty : TypeId} {pos : String} {af : Array Edge} {x c a b : Operand} {v : Value} {y : Code} {o : Oper}
theorem mv (h : FWl D P N ops Q l (upd T d v) w) (ho : o.op = .move x := by rfl) (hd : o.dst = some d := by rfl) (hw : wantedF ops T o = true := by rfl) (hx : ev T x = v := by first | exact nI rfl | exact nP rfl | exact nL rfl | exact nB rfl | exact nS rfl | exact nA rfl | exact nT rfl | exact rfl) : FWl D P N ops Q (o :: l) T w :=
 xAm d hd hw v w (by obtain ⟨_, op, _, _, _, _⟩ := o; cases ho; rw [← hx]; exact xAs) h
theorem az (h : FWl D P N ops Q l (upd T d v) w) (ho : o.op = .assign x := by rfl) (hd : o.dst = some d := by rfl) (hw : wantedF ops T o = true := by rfl) (hx : ev T x = v := by first | exact nI rfl | exact nP rfl | exact nL rfl | exact nB rfl | exact nS rfl | exact nA rfl | exact nT rfl | exact rfl) : FWl D P N ops Q (o :: l) T w :=
 xAm d hd hw v w (by obtain ⟨_, op, _, _, _, _⟩ := o; cases ho; rw [← hx]; exact xAo) h
theorem pkT (h : FWl D P N ops Q l (upd T d v) w) (ho : o.op = .pick c a b := by rfl) (hd : o.dst = some d := by rfl) (hw : wantedF ops T o = true := by rfl) (hc : ev T c = .bool true := by rfl) (hx : ev T a = v := by first | exact nI rfl | exact nP rfl | exact nL rfl | exact nB rfl | exact nS rfl | exact nA rfl | exact nT rfl | exact rfl) : FWl D P N ops Q (o :: l) T w :=
 xAm d hd hw v w (by obtain ⟨_, op, _, _, _, _⟩ := o; cases ho; rw [← hx]; exact xAy hc) h
theorem pkF (h : FWl D P N ops Q l (upd T d v) w) (ho : o.op = .pick c a b := by rfl) (hd : o.dst = some d := by rfl) (hw : wantedF ops T o = true := by rfl) (hc : ev T c = .bool false := by rfl) (hx : ev T b = v := by first | exact nI rfl | exact nP rfl | exact nL rfl | exact nB rfl | exact nS rfl | exact nA rfl | exact nT rfl | exact rfl) : FWl D P N ops Q (o :: l) T w :=
 xAm d hd hw v w (by obtain ⟨_, op, _, _, _, _⟩ := o; cases ho; rw [← hx]; exact xAy hc) h
theorem vl (v : Value) (hr : (execOp (ev T) o).run P w = .ok (.value v) w) (h : FWl D P N ops Q l (upd T d v) w) (hd : o.dst = some d := by rfl) (hw : wantedF ops T o = true := by rfl) : FWl D P N ops Q (o :: l) T w := xAm d hd hw v w hr h
theorem vi (hr : (execOp (ev T) o).run P w = .ok (.value v) w) (h : FWl D P N ops Q l (upd T d v) w) (hd : o.dst = some d := by rfl) (hw : wantedF ops T o = true := by rfl) : FWl D P N ops Q (o :: l) T w := xAm d hd hw v w hr h
theorem nc {q : Addr} (h : FWl D P N ops Q l (upd T d (.pointer (some q))) w) (ho : o.op = .nilCheck x := by rfl) (hd : o.dst = some d := by rfl) (hw : wantedF ops T o = true := by rfl) (hx : ev T x = .pointer (some q) := by rfl) : FWl D P N ops Q (o :: l) T w :=
 xAm d hd hw _ w (by obtain ⟨_, op, _, _, _, _⟩ := o; cases ho; rw [← hx]; exact xAU hx) h
theorem fa {t : TypeId} {f sz g k off : Nat} {fs : Array Field} {fl : Field} (k' : Nat) (ho : o.op = .fieldAddr t x f) (hu : P.underlying t = some (.struct fs)) (hf : fs[f]? = some fl) (hs : ∀ w, (sizeOf fl.type).run P w = .ok sz w) (h : FWl D P N ops Q l (upd T d (.pointer (some ⟨g, k', none⟩))) w) (hz : Nat.blt 0 sz = true := by rfl) (hoff : fl.offset = off := by rfl) (hd : o.dst = some d := by rfl) (hw : wantedF ops T o = true := by rfl) (hx : ev T x = .pointer (some ⟨g, k, none⟩) := by rfl) (hk : k + off = k' := by rfl) : FWl D P N ops Q (o :: l) T w :=
 xAm d hd hw _ w (by obtain ⟨_, op, _, _, _, _⟩ := o; cases ho; exact xAB hu hf hs hz hoff hk hx) h
theorem sp (h : FWl D P N ops Q l (upd T d undef) w) (hd : o.dst = some d := by rfl) (hw : wantedF ops T o = false := by rfl) : FWl D P N ops Q (o :: l) T w := FWl.skip d hd hw h
theorem rg (h : ∀ K : Fr → World → Prop, (∀ T w, FW D P N y Q T w → K T w) → FWl D P N l.toArray (thenF K Q) l T w) (hok : regOk N l = true := by rfl) : FW D P N ((Code.region id l.toArray false).seq y) Q T w := FW.seq_k fun K k => xAA hok (h K k)
theorem sk {x y : Code} (h : ∀ K : Fr → World → Prop, (∀ T w, FW D P N y Q T w → K T w) → FW D P N x (thenF K Q) T w) : FW D P N (x.seq y) Q T w := FW.seq_k h
theorem nl (h : Q .normal T w) : FWl D P N ops Q [] T w := FWl.nil h
theorem cn {x y : Code} (t : Bool) (ht : t = true → FW D P N x Q T w) (hf : t = false → FW D P N y Q T w) (hc : ev T c = .bool t := by rfl) : FW D P N (.cond c x y) Q T w := xAK t hc ht hf
end
section
variable {D : List Deferred} {P : Program} {N : Nat} {Q : Exit → Fr → World → Prop} {T : Fr} {w : World} {ops : Array Oper} {S : World → Prop} {zs : List Nat} {l : STr} {i d : Nat} {o : Oper} {v : Value} {ty : TypeId} {pos : String} {af : Array Edge} {x : Operand}
theorem pu (hi : ops[i]? = some o) (v : Value) (hr : ∀ w', (execOp (ev T) o).run P w' = .ok (.value v) w') (h : FWs D P N ops Q S zs l (upd T d v) w) (hd : o.dst = some d := by rfl) (hw : wantedF ops T o = true := by rfl) : FWs D P N ops Q S zs (.pure i l) T w := FWs.pure hi d hd hw v hr h
theorem pm (h : FWs D P N ops Q S zs l (upd T d v) w) (hi : ops[i]? = some o := by rfl) (ho : o.op = .move x := by rfl) (hd : o.dst = some d := by rfl) (hw : wantedF ops T o = true := by rfl) (hx : ev T x = v := by first | exact nI rfl | exact nP rfl | exact nL rfl | exact nB rfl | exact nS rfl | exact nA rfl | exact nT rfl | exact rfl) : FWs D P N ops Q S zs (.pure i l) T w :=
 FWs.pure hi d hd hw v (fun w' => by obtain ⟨_, op, _, _, _, _⟩ := o; cases ho; rw [← hx]; exact xAs) h
theorem ws (hi : ops[i]? = some o) (v : Value) (hr : (execOp (ev T) o).run P w = .ok (.value v) w) (hS : zs.contains i = true ∨ S w) (h : FWs D P N ops Q S zs l (upd T d v) w) (hd : o.dst = some d := by rfl) (hw : wantedF ops T o = true := by rfl) : FWs D P N ops Q S zs (.one i l) T w := xBB hi d hd hw v w hr hS h
theorem wi (hi : ops[i]? = some o) (hr : (execOp (ev T) o).run P w = .ok (.value v) w) (hS : zs.contains i = true ∨ S w) (h : FWs D P N ops Q S zs l (upd T d v) w) (hd : o.dst = some d := by rfl) (hw : wantedF ops T o = true := by rfl) : FWs D P N ops Q S zs (.one i l) T w := xBB hi d hd hw v w hr hS h
theorem wm (hS : zs.contains i = true ∨ S w) (h : FWs D P N ops Q S zs l (upd T d v) w) (hi : ops[i]? = some o := by rfl) (ho : o.op = .move x := by rfl) (hd : o.dst = some d := by rfl) (hw : wantedF ops T o = true := by rfl) (hx : ev T x = v := by first | exact nI rfl | exact nP rfl | exact nL rfl | exact nB rfl | exact nS rfl | exact nA rfl | exact nT rfl | exact rfl) : FWs D P N ops Q S zs (.one i l) T w :=
 xBB hi d hd hw v w (by obtain ⟨_, op, _, _, _, _⟩ := o; cases ho; rw [← hx]; exact xAs) hS h
theorem pz (h : FWs D P N ops Q S zs l (upd T d undef) w) (hi : ops[i]? = some o := by rfl) (hd : o.dst = some d := by rfl) (hw : wantedF ops T o = false := by rfl) : FWs D P N ops Q S zs (.pure i l) T w := xAr hi d hd hw h
theorem tk (hi : ops[i]? = some o) (v : Value) (hS : S w) (hr : ∀ w', S w' → (execOp (ev T) o).run P w' = .ok (.value v) w') (h : FWs D P N ops Q S zs l (upd T d v) w) (hd : o.dst = some d := by rfl) (hw : wantedF ops T o = true := by rfl) : FWs D P N ops Q S zs (.take i l) T w := FWs.take hi d hd hw v hS hr h
end
end Go.Proofs.YtlofomkhiefbmaaGreatDoor

namespace Go.Proofs.YtlofomkhiefbmaaGreatDoor
open Go.RowKit
def rAdd (s : List Edit) (d : Int) (l : List Line) : List Edit :=
 if l = [] then s else match s.getLast? with
  | some x => if x.do_ = d then s.dropLast ++ [⟨d, x.lines ++ l⟩] else s ++ [⟨d, l⟩]
  | none => [⟨d, l⟩]
theorem rAdd_nil (s : List Edit) (d : Int) : rAdd s d [] = s := by simp [rAdd]
theorem rAdd_zero {d : Int} {l : List Line} (h : l ≠ []) : rAdd [] d l = [⟨d, l⟩] := by simp [rAdd, h]
theorem rAdd_same {s : List Edit} {x : Edit} {d : Int} {l : List Line} (h : l ≠ []) (hd : x.do_ = d) : rAdd (s ++ [x]) d l = s ++ [⟨d, x.lines ++ l⟩] := by simp [rAdd, h, hd]
theorem rAdd_new {s : List Edit} {x : Edit} {d : Int} {l : List Line} (h : l ≠ []) (hd : ¬ x.do_ = d) : rAdd (s ++ [x]) d l = (s ++ [x]) ++ [⟨d, l⟩] := by simp [rAdd, h, hd]
inductive RowSt (TR TE TL B : Nat) (w : World) (C : Gh) (g : Nat) (s : List Edit) (wt : List Line) : Prop where
 | nil {Aw : Option Addr} {cw : Nat} (hs : s = []) (hg : B ≤ g) (hst : St w C g [.slice none ([] : List (List Value)).length 0, .slice Aw wt.length cw] TR) (hw : Sl kLine C Aw cw wt) (how : Own B TL 2 w C Aw wt.length cw) : RowSt TR TE TL B w C g s wt
 | snoc {As Aw A : Option Addr} {cs cw c : Nat} {rows0 : List (List Value)} {s0 : List Edit} {x : Edit} (hs : s = s0 ++ [x]) (hg : B ≤ g) (hst : St w C g [.slice As (rows0 ++ [[Value.int .i64 x.do_, Value.slice A x.lines.length c]]).length cs, .slice Aw wt.length cw] TR)
   (hm : MRow B TE 2 w C As cs (rows0 ++ [[Value.int .i64 x.do_, Value.slice A x.lines.length c]])) (hr0 : RowR kEdit C s0 rows0.flatten) (hl0 : rows0.length = s0.length) (hx : Sl kLine C A c x.lines) (hox : Own B TL 2 w C A x.lines.length c)
   (hw : Sl kLine C Aw cw wt) (how : Own B TL 2 w C Aw wt.length cw) (hn : Nb2 A x.lines.length c Aw wt.length cw) : RowSt TR TE TL B w C g s wt
theorem RowSt.call {TR TE TL B : Nat} {w w' : World} {C C' : Gh} {g : Nat} {s : List Edit} {wt : List Line} (h : RowSt TR TE TL B w C g s wt) (e : Ext w.heap.size w C w' C') : RowSt TR TE TL B w' C' g s wt := by
 cases h with
 | nil hs hg hst hw how => exact .nil hs hg (hst.call e) (hw.mono e.le) (how.call e)
 | snoc hs hg hst hm hr0 hl0 hx hox hw how hn => exact .snoc hs hg (hst.call e) (hm.call e) (hr0.mono e.le) hl0 (hx.mono e.le) (hox.call e) (hw.mono e.le) (how.call e) hn
theorem RowSt.lt {TR TE TL B : Nat} {w : World} {C : Gh} {g : Nat} {s : List Edit} {wt : List Line} (h : RowSt TR TE TL B w C g s wt) : B ≤ g ∧ g < w.heap.size := by
 cases h with
 | nil hs hg hst hw how => exact ⟨hg, hst.lt⟩
 | snoc hs hg hst hm hr0 hl0 hx hox hw how hn => exact ⟨hg, hst.lt⟩
theorem rowR_snoc {C : Gh} {s0 : List Edit} {rows0 : List (List Value)} {x : Edit} {A : Option Addr} {c : Nat} (h : RowR kEdit C s0 rows0.flatten) (hx : Sl kLine C A c x.lines) : RowR kEdit C (s0 ++ [x]) (rows0 ++ [[Value.int .i64 x.do_, Value.slice A x.lines.length c]]).flatten := by
 rw [List.flatten_append]
 refine h.app ?_
 have : RowR kEdit C [x] ([Value.int .i64 x.do_, Value.slice A x.lines.length c] ++ []) := .cons ⟨A, c, rfl, hx⟩ .nil
 simpa using this
theorem RowSt.drew {TR TE TL B : Nat} {w : World} {C : Gh} {g : Nat} {s : List Edit} {wt : List Line} (h : RowSt TR TE TL B w C g s wt) : RowSt TR TE TL B w.drew C g s wt := by
 cases h with
 | nil hs hg hst hw how => exact .nil hs hg hst.drew hw how.drew
 | snoc hs hg hst hm hr0 hl0 hx hox hw how hn => exact .snoc hs hg hst.drew hm.drew hr0 hl0 hx hox.drew hw how.drew hn
theorem total_app (s t : List Edit) : total (s ++ t) = total s + total t := by simp [total]
theorem rAdd_total (s : List Edit) (d : Int) (l : List Line) : total (rAdd s d l) = total s + l.length := by
 by_cases hl : l = []
 ·subst hl; simp [rAdd]
 ·rcases List.eq_nil_or_concat s with rfl | ⟨s0, x, rfl⟩
  ·rw [rAdd_zero hl]; simp [total]
  ·rw [List.concat_eq_append]
   by_cases hd : x.do_ = d
   ·rw [rAdd_same hl hd, total_app, total_app]; simp [total]; omega
   ·rw [rAdd_new hl hd, total_app]; simp [total]
theorem rAdd_len (s : List Edit) (d : Int) (l : List Line) : (rAdd s d l).length ≤ s.length + 1 := by
 by_cases hl : l = []
 ·subst hl; simp [rAdd]
 ·rcases List.eq_nil_or_concat s with rfl | ⟨s0, x, rfl⟩
  ·rw [rAdd_zero hl]; simp
  ·rw [List.concat_eq_append]
   by_cases hd : x.do_ = d
   ·rw [rAdd_same hl hd]; simp
   ·rw [rAdd_new hl hd]; simp
def rTake (p : List Edit × List Line) (x : Edit) : List Edit × List Line :=
 if x.do_ = 3 then (p.1, p.2 ++ x.lines)
 else if x.do_ = 1 ∧ x.lines ≠ [] then (rAdd (rAdd p.1 3 p.2) 1 x.lines, [])
 else (rAdd p.1 x.do_ x.lines, p.2)
theorem rTake_in {p : List Edit × List Line} {x : Edit} (h : x.do_ = 3) : rTake p x = (p.1, p.2 ++ x.lines) := if_pos h
theorem rTake_keep {p : List Edit × List Line} {x : Edit} (h : x.do_ = 1) (hl : 0 < x.lines.length) : rTake p x = (rAdd (rAdd p.1 3 p.2) x.do_ x.lines, []) := by
 have : x.lines ≠ [] := fun e => by simp [e] at hl
 simp [rTake, h, this]
theorem rTake_else {p : List Edit × List Line} {x : Edit} (h : x.do_ ≠ 3) (hl : ¬ (x.do_ = 1 ∧ 0 < x.lines.length)) : rTake p x = (rAdd p.1 x.do_ x.lines, p.2) := by
 have : ¬ (x.do_ = 1 ∧ x.lines ≠ []) := fun ⟨h1, h2⟩ => hl ⟨h1, List.length_pos_iff.2 h2⟩
 simp only [rTake, if_neg h, if_neg this]
theorem rTake_total (p : List Edit × List Line) (x : Edit) : total (rTake p x).1 + (rTake p x).2.length = total p.1 + p.2.length + x.lines.length := by
 unfold rTake
 split
 ·simp; omega
 ·split
  ·simp [rAdd_total]
  ·simp [rAdd_total]; omega
theorem rTake_len (p : List Edit × List Line) (x : Edit) : (rTake p x).1.length ≤ p.1.length + 2 := by
 unfold rTake
 split
 ·simp
 ·split
  ·have h1 := rAdd_len (rAdd p.1 3 p.2) 1 x.lines
   have h2 := rAdd_len p.1 3 p.2
   simp only; omega
  ·have h1 := rAdd_len p.1 x.do_ x.lines
   simp only; omega
theorem foldl_take {α β : Type} {f : β → α → β} {a : β} {s : List α} {k : Nat} {x : α} (h : s[k]? = some x) : (s.take (k + 1)).foldl f a = f ((s.take k).foldl f a) x := by
 rw [xAz h, List.foldl_append]; rfl
theorem foldT_total (s : List Edit) : ∀ p, total (s.foldl rTake p).1 + (s.foldl rTake p).2.length = total p.1 + p.2.length + total s := by
 induction s with
 | nil => simp [total]
 | cons x s ih =>
  intro p
  have h1 := rTake_total p x
  have h2 : total (x :: s) = x.lines.length + total s := by simp [total]
  rw [List.foldl_cons, ih, h2]; omega
theorem foldT_len (s : List Edit) : ∀ p, (s.foldl rTake p).1.length ≤ p.1.length + 2 * s.length := by
 induction s with
 | nil => simp
 | cons x s ih =>
  intro p
  have h1 := rTake_len p x
  have h2 := ih (rTake p x)
  rw [List.foldl_cons, List.length_cons]; omega
theorem foldTake_total (s : List Edit) (k : Nat) : total ((s.take k).foldl rTake ([], [])).1 + ((s.take k).foldl rTake ([], [])).2.length = total (s.take k) := by
 have := foldT_total (s.take k) ([], [])
 simpa [total] using this
theorem foldTake_len (s : List Edit) (k : Nat) : ((s.take k).foldl rTake ([], [])).1.length ≤ 2 * (s.take k).length := by
 have := foldT_len (s.take k) ([], [])
 simpa using this
def normalS (s : List Edit) : List Edit := let p := s.foldl rTake ([], []); rAdd p.1 3 p.2
theorem normalS_len0 (s : List Edit) : (normalS s).length ≤ 2 * s.length + 1 := by
 have h1 := foldT_len s ([], [])
 have h2 := rAdd_len (s.foldl rTake ([], [])).1 3 (s.foldl rTake ([], [])).2
 simp only [normalS]
 simp at h1
 omega
theorem normalS_len (s : List Edit) : (normalS s).length ≤ 2 * s.length + 1 := normalS_len0 s
end Go.Proofs.YtlofomkhiefbmaaGreatDoor

namespace Go.Proofs.YtlofomkhiefbmaaGreatDoor
open Go.RowKit
section
variable {P : Program} {ρ : Operand → Value} {d : Option Tmp} {ty : TypeId} {pos : String} {af : Array Edge} {gd : Option (Nat × Bool)} {w : World} {t t' : TypeId} {k : IntKind} {a b c : Int} {x y : Operand}
theorem r_negI (hx : ρ x = .int .i64 a) (h1 : -9223372036854775808 ≤ 0 - a) (h2 : 0 - a ≤ 9223372036854775807) : (execOp ρ ⟨d, .unOp .neg t x, ty, pos, af, gd⟩).run P w = .ok (.value (.int .i64 (0 - a))) w := by
 simp [execOp, hx, Op.unary, Op.intArith]
 have := wr64 h1 h2
 simpa using this
theorem xBE (hx : ρ x = .int k a) (hy : ρ y = .int k b) (he : k.wrap (a + b) = c) : (execOp ρ ⟨d, .binOp .add t x y t', ty, pos, af, gd⟩).run P w = .ok (.value (.int k c)) w := by
 rw [r_add hx hy, he]
theorem r_subE (hx : ρ x = .int k a) (hy : ρ y = .int k b) (he : k.wrap (a - b) = c) : (execOp ρ ⟨d, .binOp .sub t x y t', ty, pos, af, gd⟩).run P w = .ok (.value (.int k c)) w := by
 rw [r_sub hx hy, he]
theorem r_mulE (hx : ρ x = .int k a) (hy : ρ y = .int k b) (he : k.wrap (a * b) = c) : (execOp ρ ⟨d, .binOp .mul t x y t', ty, pos, af, gd⟩).run P w = .ok (.value (.int k c)) w := by
 rw [r_mul hx hy, he]
theorem r_andE (hx : ρ x = .int k a) (hy : ρ y = .int k b) (he : k.wrap ((BitVec.ofInt k.bits a &&& BitVec.ofInt k.bits b).toNat : Int) = c) : (execOp ρ ⟨d, .binOp .and t x y t', ty, pos, af, gd⟩).run P w = .ok (.value (.int k c)) w := by
 simp [execOp, hx, hy, eqGuard, binOp, Op.intBits]
 simpa using he
theorem r_shrE {yk : IntKind} (hx : ρ x = .int k a) (hy : ρ y = .int yk b) (h0 : 0 ≤ b) (he : a / 2 ^ min b.toNat k.bits = c) : (execOp ρ ⟨d, .binOp .shr t x y t', ty, pos, af, gd⟩).run P w = .ok (.value (.int k c)) w := by
 simp [execOp, hx, hy, eqGuard, binOp, shift_shr_any k yk a b h0, he]
theorem r_quoE (hx : ρ x = .int k a) (hy : ρ y = .int k b) (h0 : b ≠ 0) (he : k.wrap (a.tdiv b) = c) : (execOp ρ ⟨d, .binOp .quo t x y t', ty, pos, af, gd⟩).run P w = .ok (.value (.int k c)) w := by
 simp [execOp, hx, hy, eqGuard, binOp, Op.intDiv, h0, he]
theorem r_remE (hx : ρ x = .int k a) (hy : ρ y = .int k b) (h0 : b ≠ 0) (he : a.tmod b = c) : (execOp ρ ⟨d, .binOp .rem t x y t', ty, pos, af, gd⟩).run P w = .ok (.value (.int k c)) w := by
 simp [execOp, hx, hy, eqGuard, binOp, Op.intDiv, h0, he]
theorem r_convI {k k' k1 : IntKind} (hs : ∀ w, (underlying t).run P w = .ok (.int k1) w) (hd : ∀ w, (underlying t').run P w = .ok (.int k') w) (hx : ρ x = .int k a) (he : k'.wrap a = c) : (execOp ρ ⟨d, .convert t t' x, ty, pos, af, gd⟩).run P w = .ok (.value (.int k' c)) w := by
 simp [execOp, hx, convert, hs, hd, Conv.intToInt, he]
theorem r_concat {s s' : ByteArray} (hx : ρ x = .string s) (hy : ρ y = .string s') (h : s.size + s'.size ≤ 9223372036854775807) : (execOp ρ ⟨d, .binOp .add t x y t', ty, pos, af, gd⟩).run P w = .ok (.value (.string (s ++ s'))) w := by
 have : ¬ (9223372036854775807 : Int) < (s.size : Int) + s'.size := by omega
 have hm : IntKind.i64.max = 9223372036854775807 := rfl
 simp [execOp, hx, hy, eqGuard, binOp, Op.stringOp, hm, this]

theorem and_mask {n : Int} (h0 : 0 ≤ n) (h1 : n < 4294967296) : IntKind.u64.wrap ((BitVec.ofInt IntKind.u64.bits n &&& BitVec.ofInt IntKind.u64.bits 4294967295).toNat : Int) = n := by
 obtain ⟨m, rfl⟩ := Int.eq_ofNat_of_zero_le h0
 have hm : m < 4294967296 := by omega
 have e1 : (BitVec.ofInt IntKind.u64.bits (m : Int) &&& BitVec.ofInt IntKind.u64.bits 4294967295).toNat = m := by
  rw [BitVec.toNat_and]
  have a1 : (BitVec.ofInt IntKind.u64.bits (m : Int)).toNat = m := by
   rw [show IntKind.u64.bits = 64 from rfl, BitVec.ofInt_natCast, BitVec.toNat_ofNat]
   omega
  have a2 : (BitVec.ofInt IntKind.u64.bits 4294967295).toNat = 4294967295 := by rfl
  rw [a1, a2, show (4294967295 : Nat) = 2 ^ 32 - 1 from rfl, Nat.and_two_pow_sub_one_eq_mod]
  omega
 rw [e1, IntKind.wrap_u64]
 omega

abbrev ri (xs : List Int) : List Value := xs.map (Value.int .i64)
theorem ri_at {xs : List Int} {i : Nat} {v : Int} (h : xs[i]? = some v) : (ri xs)[i]? = some (.int .i64 v) := by simp [ri, h]
theorem ri_set (xs : List Int) (i : Nat) (v : Int) (h : i < xs.length) : putAt (ri xs) i [.int .i64 v] = ri (xs.set i v) := by
 apply List.ext_getElem?
 intro j
 simp only [putAt, ri, List.map_set]
 rw [List.getElem?_set]
 by_cases h1 : i = j
 ·subst h1
  rw [List.append_assoc, List.getElem?_append_right (by simp; omega)]
  simp [h]
  rw [show i - min i xs.length = 0 by omega]; rfl
 ·rw [if_neg h1]
  by_cases h2 : j < i
  ·rw [List.append_assoc, List.getElem?_append_left (by simp; omega), List.getElem?_take_of_lt h2]
  ·rw [List.getElem?_append_right (by simp; omega), List.getElem?_drop]
   congr 1
   simp
   omega
theorem r_indexAddrI {ix : Operand} {e : TypeId} {g n c : Nat} {i : Int} (hu : P.underlying t = some (.slice e)) (hs : ∀ w, (sizeOf e).run P w = .ok 1 w) (hx : ρ x = .slice (some ⟨g, 0, none⟩) n c) (hi : ρ ix = .int .i64 i) (h0 : 0 ≤ i) (h1 : i < n) :
  (execOp ρ ⟨d, .indexAddr t x ix, ty, pos, af, gd⟩).run P w = .ok (.value (.pointer (some ⟨g, i.toNat, none⟩))) w := by
 rw [xAJ hu hs hx hi rfl h0 h1]
 simp [ptrAt, Addr.add_lit]
theorem new_makeI {C : Gh} {x y : Operand} {e : TypeId} {ie : TypeInfo} {n : Nat} (ht : P.underlying t = some (.slice e)) (hi : P.info? e = some ie) (hz : ie.zero = some (.int .i64 0)) (hsz : ie.size = 1) (hb : ie.bytes = 8) (hx : ρ x = .int .i64 (n : Int)) (hy : ρ y = .int .i64 (n : Int)) (hn : n ≤ 17592186044416) (hH : Has w C) :
  ∃ g w', (execOp ρ ⟨d, .makeSlice t x y, ty, pos, af, gd⟩).run P w = .ok (.value (.slice (some ⟨g, 0, none⟩) n n)) w' ∧ St w' C g (ri (List.replicate n 0)) e ∧ Ext w.heap.size w C w' C ∧ w.heap.size = g := by
 have hrun := run_make (P := P) w t e ie _ ht hi hz .i64 .i64 n n (by omega) (by omega) (by rw [hb]; omega) (by omega)
 have hc : madeCells (Value.int .i64 0).cells (((n : Int)).toNat * ie.size) = (ri (List.replicate n 0)).toArray := by
  rw [hsz]
  simp only [madeCells, Value.cells]
  apply Array.ext
  ·simp
  ·intro i h1 h2
   simp [ri, Nat.mod_one]
 rw [hc] at hrun
 refine ⟨_, _, ?_, alloc_st hH _ _, alloc_ext hH _, rfl⟩
 simp only [execOp, hx, hy, Sem.run_bind, hrun, Result.andThen_ok, Sem.run_pure, Int.toNat_natCast]
theorem run_copyAt {C : Gh} {dT sT ty : TypeId} {e te : TypeId} {g o dLen dCap sLen sCap : Nat} {a : Addr} {cur cs : List Value} (hu : P.underlying dT = some (.slice e)) (hs : (P.info? e).map (·.size) = some 1) (hst : St w C g cur te) (hH : Has w C)
  (hn : cs.length = Nat.min sLen dLen) (hsrc : ∀ j v, cs[j]? = some v → w.cell? (a.add j) = some v) (hfit : o + cs.length ≤ cur.length) (h1 : ∀ v ∈ cs, v.oneCell' = true) :
  ∃ w', (Builtin.copy_ #[dT, sT] ty #[.slice (some ⟨g, o, none⟩) dLen dCap, .slice (some a) sLen sCap]).run P w = .ok (.int .i64 (cs.length : Int)) w' ∧ Mut g w C w' C ∧ St w' C g (putAt cur o cs) te := by
 have := run_copy_row (P := P) w dT sT ty e g o dLen dCap a sLen sCap cur.toArray te cs hu hs hst.blk hn hsrc (by simpa using hfit) h1
 refine ⟨_, this, ?_⟩
 have h2 := setRow_mut (cs := putAt cur o cs) hst hH
 simpa [putAt] using h2
theorem new_copyI {C : Gh} {xs ys : List Int} {e : TypeId} {g n c2 : Nat} {A2 : Option Addr} (hu : P.underlying t = some (.slice e)) (hs : (P.info? e).map (·.size) = some 1) (hst : St w C g (ri xs) e) (h2 : Sl (kInt .i64) C A2 c2 ys) (hl : xs.length = ys.length) (hH : Has w C) (hpos : 0 < ys.length)
  (hx : ρ x = .slice (some ⟨g, 0, none⟩) n n) (hy : ρ y = .slice A2 ys.length c2) (hn : n = ys.length) :
  ∃ w', (execOp ρ ⟨d, .call { callee := .builtin .copy, args := #[x, y], argTypes := #[t, t'] }, ty, pos, af, gd⟩).run P w = .ok (.value (.int .i64 (ys.length : Int))) w' ∧ Mut g w C w' C ∧ St w' C g (ri ys) e := by
 obtain ⟨cs, hr, hsg⟩ := h2.row
 obtain ⟨g2, o2, rfl, hseg⟩ := hsg hpos
 have hcs : cs = ri ys := by
  clear hseg hsg hy hn hpos hl h2
  induction hr with
  | nil => rfl
  | cons h t ih => rename_i x0 _ _ _; have := h; simp only [kInt] at this; subst this; rw [ih]; rfl
 subst hcs
 obtain ⟨w', h3, h4, h5⟩ := run_copyAt (P := P) (dT := t) (sT := t') (ty := ty) (dLen := n) (dCap := n) (sLen := ys.length) (sCap := c2) (o := 0) (a := ⟨g2, o2, none⟩) (cs := ri ys) hu hs hst hH (by subst hn; simp) (fun j v hj => by rw [xAu]; exact hH _ _ _ (hseg j v hj)) (by simp [hl]) hr.one
 refine ⟨w', ?_, h4, ?_⟩
 ·have h3' := h3
  simp only [List.length_map] at h3'
  simp [execOp, hx, hy, resolve, invoke, builtin, h3']
 ·have : putAt (ri xs) 0 (ri ys) = ri ys := by simp [putAt, hl]
  rwa [this] at h5
theorem sl_row {C : Gh} {A : Option Addr} {c : Nat} {ys : List Int} (h : Sl (kInt .i64) C A c ys) (hp : 0 < ys.length) : ∃ g o, A = some ⟨g, o, none⟩ ∧ Seg C g o (ri ys) := by
 obtain ⟨cs, hr, hsg⟩ := h.row
 obtain ⟨g2, o2, rfl, hseg⟩ := hsg hp
 have hcs : cs = ri ys := by
  clear hseg hsg hp h
  induction hr with
  | nil => rfl
  | cons h t ih => rename_i x0 _ _ _; have := h; simp only [kInt] at this; subst this; rw [ih]; rfl
 exact ⟨g2, o2, rfl, hcs ▸ hseg⟩
theorem ri_one (xs : List Int) : ∀ v ∈ ri xs, v.oneCell' = true := by
 intro v hv
 obtain ⟨x, _, rfl⟩ := List.mem_map.1 hv
 rfl
theorem new_copyH {C : Gh} {xs ys : List Int} {e : TypeId} {g n c2 : Nat} {A2 : Option Addr} (hu : P.underlying t = some (.slice e)) (hs : (P.info? e).map (·.size) = some 1) (hst : St w C g (ri xs) e) (h2 : Sl (kInt .i64) C A2 c2 ys) (hl : ys.length ≤ n) (hH : Has w C) (hpos : 0 < ys.length)
  (hx : ρ x = .slice (some ⟨g, 0, none⟩) n n) (hy : ρ y = .slice A2 ys.length c2) (hn : xs.length = n) :
  ∃ w', (execOp ρ ⟨d, .call { callee := .builtin .copy, args := #[x, y], argTypes := #[t, t'] }, ty, pos, af, gd⟩).run P w = .ok (.value (.int .i64 (ys.length : Int))) w' ∧ Mut g w C w' C ∧ St w' C g (ri (ys ++ xs.drop ys.length)) e := by
 obtain ⟨g2, o2, rfl, hseg⟩ := sl_row h2 hpos
 obtain ⟨w', h3, h4, h5⟩ := run_copyAt (P := P) (dT := t) (sT := t') (ty := ty) (dLen := n) (dCap := n) (sLen := ys.length) (sCap := c2) (o := 0) (a := ⟨g2, o2, none⟩) (cs := ri ys) hu hs hst hH (by show (ri ys).length = min ys.length n; simp; omega) (fun j v hj => by rw [xAu]; exact hH _ _ _ (hseg j v hj)) (by simp; omega) (ri_one _)
 refine ⟨w', ?_, h4, ?_⟩
 ·have h3' := h3
  simp only [List.length_map] at h3'
  simp [execOp, hx, hy, resolve, invoke, builtin, h3']
 ·have : putAt (ri xs) 0 (ri ys) = ri (ys ++ xs.drop ys.length) := by simp [putAt, ri]
  rwa [this] at h5
theorem new_copyW {C : Gh} {xs : List Int} {e : TypeId} {g n k c1 : Nat} (hu : P.underlying t = some (.slice e)) (hs : (P.info? e).map (·.size) = some 1) (hst : St w C g (ri xs) e) (hH : Has w C)
  (hx : ρ x = .slice (some ⟨g, k, none⟩) (n - k) c1) (hy : ρ y = .slice (some ⟨g, 0, none⟩) k n) (hn : xs.length = n) (hk : k ≤ n) :
  ∃ w', (execOp ρ ⟨d, .call { callee := .builtin .copy, args := #[x, y], argTypes := #[t, t'] }, ty, pos, af, gd⟩).run P w = .ok (.value (.int .i64 ((min k (n - k) : Nat) : Int))) w' ∧ Mut g w C w' C ∧ St w' C g (ri (xs.take k ++ xs.take (min k (n - k)) ++ xs.drop (k + min k (n - k)))) e := by
 have hl : (ri (xs.take (min k (n - k)))).length = min k (n - k) := by simp; omega
 obtain ⟨w', h3, h4, h5⟩ := run_copyAt (P := P) (dT := t) (sT := t') (ty := ty) (dLen := n - k) (dCap := c1) (sLen := k) (sCap := n) (o := k) (a := ⟨g, 0, none⟩) (cs := ri (xs.take (min k (n - k)))) hu hs hst hH hl (fun j v hj => by
  rw [xAu, Nat.zero_add]
  refine hst.cell ?_
  rw [ri, List.map_take, List.getElem?_take] at hj
  split at hj
  ·exact hj
  ·cases hj) (by rw [hl]; simp; omega) (ri_one _)
 refine ⟨w', ?_, h4, ?_⟩
 ·rw [hl] at h3
  simp [execOp, hx, hy, resolve, invoke, builtin, h3]
 ·have : putAt (ri xs) k (ri (xs.take (min k (n - k)))) = ri (xs.take k ++ xs.take (min k (n - k)) ++ xs.drop (k + min k (n - k))) := by
   rw [putAt, hl]; simp only [ri, List.map_append, List.map_take, List.map_drop]
  rwa [this] at h5
theorem r_slice3 {A : Option Addr} {e : TypeId} {n c sz : Nat} {l h m : Int} {xl xh xm : Operand} (hu : P.underlying t = some (.slice e)) (hs : ∀ w, (sizeOf e).run P w = .ok sz w) (hx : ρ x = .slice A n c) (hl : ρ xl = .int .i64 l) (hh : ρ xh = .int .i64 h) (hm : ρ xm = .int .i64 m) (h0 : 0 ≤ l) (h1 : l ≤ h) (h2 : h ≤ m) (h3 : m ≤ c) :
  (execOp ρ ⟨d, .slice t x (some xl) (some xh) (some xm), ty, pos, af, gd⟩).run P w = .ok (.value (.slice (if m.toNat = l.toNat then A else A.map (·.add (l.toNat * sz))) (h.toNat - l.toNat) (m.toNat - l.toNat))) w := by
 have e1 : 0 ≤ h := by omega
 have e2 : 0 ≤ m := by omega
 have e3 : max h 0 = h := by omega
 have e4 : max m 0 = m := by omega
 simp [e3, e4, execOp, hx, hl, hh, hm, Instr.sliceAt, Instr.slice, underlying, hu, Instr.sliceBounds, Instr.sliceBound, asIntOf, e1, e2, h0, h1, h2, h3, hs, Int.toNat_of_nonneg]
theorem r_sliceH {A : Option Addr} {e : TypeId} {n c sz : Nat} {h : Int} {xh : Operand} (hu : P.underlying t = some (.slice e)) (hs : ∀ w, (sizeOf e).run P w = .ok sz w) (hx : ρ x = .slice A n c) (hh : ρ xh = .int .i64 h) (h0 : 0 ≤ h) (h3 : h ≤ c) :
  (execOp ρ ⟨d, .slice t x none (some xh) none, ty, pos, af, gd⟩).run P w = .ok (.value (.slice (if c = 0 then A else A.map (·.add 0)) h.toNat c)) w := by
 simp [execOp, hx, hh, Instr.sliceAt, Instr.slice, underlying, hu, Instr.sliceBounds, Instr.sliceBound, asIntOf, h0, h3, hs, Int.toNat_of_nonneg]
theorem r_sliceL {A : Option Addr} {e : TypeId} {n c sz : Nat} {l : Int} {xl : Operand} (hu : P.underlying t = some (.slice e)) (hs : ∀ w, (sizeOf e).run P w = .ok sz w) (hx : ρ x = .slice A n c) (hl : ρ xl = .int .i64 l) (h0 : 0 ≤ l) (h1 : l ≤ n) :
  (execOp ρ ⟨d, .slice t x (some xl) none none, ty, pos, af, gd⟩).run P w = .ok (.value (.slice (if c = l.toNat then A else A.map (·.add (l.toNat * sz))) (n - l.toNat) (c - l.toNat))) w := by
 simp [execOp, hx, hl, Instr.sliceAt, Instr.slice, underlying, hu, Instr.sliceBounds, Instr.sliceBound, asIntOf, h0, h1, hs, Int.toNat_of_nonneg]
theorem r_sliceLI {e : TypeId} {g n k : Nat} {xl : Operand} (hu : P.underlying t = some (.slice e)) (hs : ∀ w, (sizeOf e).run P w = .ok 1 w) (hx : ρ x = .slice (some ⟨g, 0, none⟩) n n) (hl : ρ xl = .int .i64 (k : Int)) (h1 : k < n) :
  (execOp ρ ⟨d, .slice t x (some xl) none none, ty, pos, af, gd⟩).run P w = .ok (.value (.slice (some ⟨g, k, none⟩) (n - k) (n - k))) w := by
 rw [r_sliceL hu hs hx hl (by omega) (by omega), if_neg (by simp; omega)]
 simp [xAu]
theorem r_sliceHI {e : TypeId} {g n k : Nat} {xh : Operand} (hu : P.underlying t = some (.slice e)) (hs : ∀ w, (sizeOf e).run P w = .ok 1 w) (hx : ρ x = .slice (some ⟨g, 0, none⟩) n n) (hh : ρ xh = .int .i64 (k : Int)) (h3 : k ≤ n) :
  (execOp ρ ⟨d, .slice t x none (some xh) none, ty, pos, af, gd⟩).run P w = .ok (.value (.slice (some ⟨g, 0, none⟩) k n)) w := by
 rw [r_sliceH hu hs hx hh (by omega) (by omega)]
 simp [xAu]
theorem map_add0 (A : Option Addr) : A.map (·.add 0) = A := by
 cases A with
 | none => rfl
 | some a => obtain ⟨b, o, s⟩ := a; cases s <;> simp [Addr.add]
theorem r_sliceStr {s : ByteArray} {l h : Int} {xl xh : Operand} (hu : P.underlying t = some .string) (hx : ρ x = .string s) (hl : ρ xl = .int .i64 l) (hh : ρ xh = .int .i64 h) (h0 : 0 ≤ l) (h1 : l ≤ h) (h3 : h ≤ s.size) :
  (execOp ρ ⟨d, .slice t x (some xl) (some xh) none, ty, pos, af, gd⟩).run P w = .ok (.value (.string (s.extract l.toNat h.toNat))) w := by
 have e1 : 0 ≤ h := by omega
 have e3 : max h 0 = h := by omega
 simp [e3, execOp, hx, hl, hh, Instr.sliceAt, Instr.slice, underlying, hu, Instr.sliceBounds, Instr.sliceBound, asIntOf, e1, h0, h1, h3, Int.toNat_of_nonneg]
variable {f : FuncId} {ts : Array TypeId} {a0 a1 a2 cl : Operand} {v0 v1 v2 : Value} {cap : Array Value}
theorem r_callV1 (hcall : ∀ (args : Array Value) (w : World), (callFunc f args).run P w = .ok (.enter f args) w) (hf : ρ cl = .func (.func f) #[] cap) (h0 : ρ a0 = v0) {r : Array Value} (hr : #[v0] ++ cap = r) :
  (execOp ρ ⟨d, .call { callee := .value cl, args := #[a0], argTypes := ts }, ty, pos, af, gd⟩).run P w = .ok (.enter f r) w := by
 subst hr
 simp [execOp, resolve, hf, Deferred.ofValue, invoke, hcall, h0]
theorem r_callV2 (hcall : ∀ (args : Array Value) (w : World), (callFunc f args).run P w = .ok (.enter f args) w) (hf : ρ cl = .func (.func f) #[] cap) (h0 : ρ a0 = v0) (h1 : ρ a1 = v1) {r : Array Value} (hr : #[v0, v1] ++ cap = r) :
  (execOp ρ ⟨d, .call { callee := .value cl, args := #[a0, a1], argTypes := ts }, ty, pos, af, gd⟩).run P w = .ok (.enter f r) w := by
 subst hr
 simp [execOp, resolve, hf, Deferred.ofValue, invoke, hcall, h0, h1]
theorem r_callV3 (hcall : ∀ (args : Array Value) (w : World), (callFunc f args).run P w = .ok (.enter f args) w) (hf : ρ cl = .func (.func f) #[] cap) (h0 : ρ a0 = v0) (h1 : ρ a1 = v1) (h2 : ρ a2 = v2) {r : Array Value} (hr : #[v0, v1, v2] ++ cap = r) :
  (execOp ρ ⟨d, .call { callee := .value cl, args := #[a0, a1, a2], argTypes := ts }, ty, pos, af, gd⟩).run P w = .ok (.enter f r) w := by
 subst hr
 simp [execOp, resolve, hf, Deferred.ofValue, invoke, hcall, h0, h1, h2]
end
section
variable {D : List Deferred} {P : Program} {N : Nat} {Q : Exit → Fr → World → Prop} {T : Fr} {w : World} {ops : Array Oper} {S : World → Prop} {zs : List Nat} {i : Nat} {o : Oper} {C : Gh} {t t' e : TypeId} {d n : Nat} {x y : Operand}
theorem FWl.makeI {l : List Oper} {ie : TypeInfo} (ho : o.op = .makeSlice t x y) (hd : o.dst = some d) (hw : wantedF ops T o = true) (ht : P.underlying t = some (.slice e)) (hi : P.info? e = some ie) (hz : ie.zero = some (.int .i64 0)) (hsz : ie.size = 1) (hb : ie.bytes = 8)
  (hx : ev T x = .int .i64 (n : Int)) (hy : ev T y = .int .i64 (n : Int)) (hn : n ≤ 17592186044416) (hH : Has w C)
  (h : ∀ g w', St w' C g (ri (List.replicate n 0)) e → Ext w.heap.size w C w' C → w.heap.size = g → FWl D P N ops Q l (upd T d (.slice (some ⟨g, 0, none⟩) n n)) w') : FWl D P N ops Q (o :: l) T w := by
 obtain ⟨dst, op, ty, pos, af, gd⟩ := o; cases ho
 obtain ⟨g, w', hr, h1, h2, h3⟩ := new_makeI (P := P) (ρ := ev T) (d := dst) (ty := ty) (pos := pos) (af := af) (gd := gd) ht hi hz hsz hb hx hy hn hH
 exact xAm d hd hw _ _ hr (h g w' h1 h2 h3)
theorem FWl.copyI {l : List Oper} {xs ys : List Int} {g c2 : Nat} {A2 : Option Addr} (ho : o.op = .call { callee := .builtin .copy, args := #[x, y], argTypes := #[t, t'] }) (hd : o.dst = some d) (hw : wantedF ops T o = true) (hu : P.underlying t = some (.slice e)) (hs : (P.info? e).map (·.size) = some 1)
  (hst : St w C g (ri xs) e) (h2 : Sl (kInt .i64) C A2 c2 ys) (hl : xs.length = ys.length) (hH : Has w C) (hpos : 0 < ys.length) (hx : ev T x = .slice (some ⟨g, 0, none⟩) n n) (hy : ev T y = .slice A2 ys.length c2) (hn : n = ys.length)
  (h : ∀ w', Mut g w C w' C → St w' C g (ri ys) e → FWl D P N ops Q l (upd T d (.int .i64 (ys.length : Int))) w') : FWl D P N ops Q (o :: l) T w := by
 obtain ⟨dst, op, ty, pos, af, gd⟩ := o; cases ho
 obtain ⟨w', hr, h3, h4⟩ := new_copyI (P := P) (ρ := ev T) (d := dst) (ty := ty) (pos := pos) (af := af) (gd := gd) hu hs hst h2 hl hH hpos hx hy hn
 exact xAm d hd hw _ _ hr (h w' h3 h4)
theorem FWl.copyH {l : List Oper} {xs ys : List Int} {g c2 : Nat} {A2 : Option Addr} (ho : o.op = .call { callee := .builtin .copy, args := #[x, y], argTypes := #[t, t'] }) (hd : o.dst = some d) (hw : wantedF ops T o = true) (hu : P.underlying t = some (.slice e)) (hs : (P.info? e).map (·.size) = some 1)
  (hst : St w C g (ri xs) e) (h2 : Sl (kInt .i64) C A2 c2 ys) (hl : ys.length ≤ n) (hH : Has w C) (hpos : 0 < ys.length) (hx : ev T x = .slice (some ⟨g, 0, none⟩) n n) (hy : ev T y = .slice A2 ys.length c2) (hn : xs.length = n)
  (h : ∀ w', Mut g w C w' C → St w' C g (ri (ys ++ xs.drop ys.length)) e → FWl D P N ops Q l (upd T d (.int .i64 (ys.length : Int))) w') : FWl D P N ops Q (o :: l) T w := by
 obtain ⟨dst, op, ty, pos, af, gd⟩ := o; cases ho
 obtain ⟨w', hr, h3, h4⟩ := new_copyH (P := P) (ρ := ev T) (d := dst) (ty := ty) (pos := pos) (af := af) (gd := gd) hu hs hst h2 hl hH hpos hx hy hn
 exact xAm d hd hw _ _ hr (h w' h3 h4)
theorem FWs.copyW {l : STr} {xs : List Int} {g k c1 : Nat} (hi : ops[i]? = some o) (ho : o.op = .call { callee := .builtin .copy, args := #[x, y], argTypes := #[t, t'] }) (hd : o.dst = some d) (hw : wantedF ops T o = true) (hu : P.underlying t = some (.slice e)) (hs : (P.info? e).map (·.size) = some 1)
  (hst : St w C g (ri xs) e) (hH : Has w C) (hx : ev T x = .slice (some ⟨g, k, none⟩) (n - k) c1) (hy : ev T y = .slice (some ⟨g, 0, none⟩) k n) (hn : xs.length = n) (hk : k ≤ n)
  (h : ∀ w', Mut g w C w' C → St w' C g (ri (xs.take k ++ xs.take (min k (n - k)) ++ xs.drop (k + min k (n - k)))) e → (zs.contains i = true ∨ S w') ∧ FWs D P N ops Q S zs l (upd T d (.int .i64 ((min k (n - k) : Nat) : Int))) w') : FWs D P N ops Q S zs (.one i l) T w := by
 obtain ⟨dst, op, ty, pos, af, gd⟩ := o; cases ho
 obtain ⟨w', hr, h3, h4⟩ := new_copyW (P := P) (ρ := ev T) (d := dst) (ty := ty) (pos := pos) (af := af) (gd := gd) hu hs hst hH hx hy hn hk
 exact xBB hi d hd hw _ _ hr (h w' h3 h4).1 (h w' h3 h4).2
variable {p : Operand} {g k ts : Nat} {xs : List Int} {v : Int}
theorem FWl.storeI {l : List Oper} (ho : o.op = .store t p x) (hd : o.dst = none) (hw : wantedF ops T o = true) (hs : ∀ w, (sizeOf t).run P w = .ok 1 w) (hst : St w C g (ri xs) ts) (hH : Has w C)
  (hp : ev T p = .pointer (some ⟨g, k, none⟩)) (hx : ev T x = .int .i64 v) (hl : k < xs.length)
  (h : ∀ w', Mut g w C w' C → St w' C g (ri (xs.set k v)) ts → FWl D P N ops Q l T w') : FWl D P N ops Q (o :: l) T w := by
 obtain ⟨dst, op, ty, pos, af, gd⟩ := o; cases ho
 obtain ⟨w', hr, h2, h3⟩ := r_storeSt (P := P) (ρ := ev T) (d := dst) (ty := ty) (pos := pos) (af := af) (gd := gd) (vs := [.int .i64 v]) hs rfl hst hH hp hx rfl rfl (by simp; omega)
 rw [ri_set xs k v hl] at h3
 exact FWl.unit hd hw _ hr (h w' h2 h3)
theorem FWs.storeI {l : STr} (hi : ops[i]? = some o) (ho : o.op = .store t p x) (hd : o.dst = none) (hw : wantedF ops T o = true) (hs : ∀ w, (sizeOf t).run P w = .ok 1 w) (hst : St w C g (ri xs) ts) (hH : Has w C)
  (hp : ev T p = .pointer (some ⟨g, k, none⟩)) (hx : ev T x = .int .i64 v) (hl : k < xs.length)
  (h : ∀ w', Mut g w C w' C → St w' C g (ri (xs.set k v)) ts → (zs.contains i = true ∨ S w') ∧ FWs D P N ops Q S zs l T w') : FWs D P N ops Q S zs (.one i l) T w := by
 obtain ⟨dst, op, ty, pos, af, gd⟩ := o; cases ho
 obtain ⟨w', hr, h2, h3⟩ := r_storeSt (P := P) (ρ := ev T) (d := dst) (ty := ty) (pos := pos) (af := af) (gd := gd) (vs := [.int .i64 v]) hs rfl hst hH hp hx rfl rfl (by simp; omega)
 rw [ri_set xs k v hl] at h3
 exact FWs.unit hi hd hw _ hr (h w' h2 h3).1 (h w' h2 h3).2
end
theorem St.commitI {w : World} {C : Gh} {g t : Nat} {xs : List Int} (h : St w C g (ri xs) t) (hH : Has w C) (hb : xs.length ≤ 140737488355328) : ∃ C', Mut g w C w C' ∧ Sl (kInt .i64) C' (some ⟨g, 0, none⟩) xs.length xs := by
 obtain ⟨C', m, hc⟩ := h.commit hH
 refine ⟨C', m, ?_⟩
 obtain ⟨g', o, hA, hs⟩ := hc
 cases hA
 have hr : RowR (kInt .i64) C' xs (ri xs) := by
  clear h hs hb
  induction xs with
  | nil => exact .nil
  | cons x xs ih => exact .cons (cs := [.int .i64 x]) rfl ih
 exact Sl.of_row hr (by simpa using hs) (Nat.le_refl _) hb
theorem CellsG.cell {C : Gh} {w : World} {g j : Nat} {cs : List Value} {v : Value} (h : CellsG C (some ⟨g, 0, none⟩) 0 cs) (hH : Has w C) (hj : cs[j]? = some v) : w.cell? ⟨g, j, none⟩ = some v := by
 obtain ⟨g', o, hA, hs⟩ := h
 cases hA
 have := hs j v hj
 simp only [Nat.zero_add] at this
 exact hH _ _ _ this
theorem rep_head {n : Nat} {x : Int} (h : 1 ≤ n) : ([x] ++ (List.replicate n (0 : Int)).drop [x].length).take 1 = List.replicate 1 x := by simp
theorem rep_dbl {k n : Nat} {x : Int} {row : List Int} (hl : row.length = n) (h : row.take k = List.replicate k x) (hk : k ≤ n) : (row.take k ++ row.take (min k (n - k)) ++ row.drop (k + min k (n - k))).take (k + min k (n - k)) = List.replicate (k + min k (n - k)) x := by
 have h2 : row.take (min k (n - k)) = List.replicate (min k (n - k)) x := by
  have : row.take (min k (n - k)) = (row.take k).take (min k (n - k)) := by rw [List.take_take]; congr 1; omega
  rw [this, h, List.take_replicate]; congr 1; omega
 rw [h, h2, List.replicate_append_replicate, List.take_append_of_le_length (by simp), List.take_of_length_le (by simp)]
theorem rep_len {k n : Nat} {row : List Int} (hl : row.length = n) (hk : k ≤ n) : (row.take k ++ row.take (min k (n - k)) ++ row.drop (k + min k (n - k))).length = n := by
 simp; omega
end Go.Proofs.YtlofomkhiefbmaaGreatDoor

namespace Go.Proofs.YtlofomkhiefbmaaGreatDoor
open Go.RowKit
structure Mp (w : World) (C : Gh) (g : Nat) (es : List MapEntry) (ck : Nat) : Prop where
 blk : w.heap[g]? = some (.map es.toArray ck)
 un : ∀ o, C g o = none
section
variable {w w' : World} {C C' C1 : Gh} {g g' : Nat} {es : List MapEntry} {ck : Nat}
theorem Mp.lt (h : Mp w C g es ck) : g < w.heap.size := blk_lt' h.blk
theorem Mp.ext {B : Nat} (h : Mp w C g es ck) (e : Ext B w C w' C') (hg : g < B) : Mp w' C' g es ck := ⟨(e.below.block g hg).trans h.blk, fun o => (e.old g o hg).trans (h.un o)⟩
theorem Mp.call (h : Mp w C g es ck) (e : Ext w.heap.size w C w' C') : Mp w' C' g es ck := h.ext e h.lt
theorem Mp.other (h : Mp w C g es ck) (m : Mut g' w C w' C') (hne : g ≠ g') : Mp w' C' g es ck :=
 ⟨(m.grown.block g h.lt (by simp; exact hne)).trans h.blk, fun o => (m.old g o h.lt hne).trans (h.un o)⟩
theorem Mp.app {A A' : Option Addr} {n c n' c' : Nat} (h : Mp w C g es ck) (m : App A n c w C A' n' c' w' C') (hn : Nb A n c g) : Mp w' C' g es ck :=
 ⟨((m.oth g h.lt hn).1).trans h.blk, fun o => ((m.oth g h.lt hn).2 o).trans (h.un o)⟩
theorem Mp.ne_st {cs : List Value} {t : TypeId} (h : Mp w C g es ck) (s : St w C1 g' cs t) : g ≠ g' := fun e => by
 subst e
 have := h.blk
 rw [s.blk] at this
 cases this
theorem Own.nbM {B e sz : Nat} {A : Option Addr} {n c : Nat} (h : Own B e sz w C A n c) (s : Mp w C1 g es ck) : Nb A n c g := fun hl a ha hb => by
 obtain ⟨g', o, cs, h1, _, h3, _⟩ := h.sp hl
 rw [h1] at ha
 cases ha
 simp only at hb
 subst hb
 have := s.blk
 rw [h3] at this
 cases this
end
theorem Own.nb2T {B B2 e e2 sz sz2 : Nat} {w : World} {C C1 : Gh} {A A2 : Option Addr} {n c n2 c2 : Nat} (h : Own B e sz w C A n c) (h2 : Own B2 e2 sz2 w C1 A2 n2 c2) (hne : e ≠ e2) : Nb2 A n c A2 n2 c2 := fun hl2 a2 ha2 hl a ha hb => by
 obtain ⟨g, o, cs, h3, _, h4, _⟩ := h.sp hl
 obtain ⟨g2, o2, cs2, h5, _, h6, _⟩ := h2.sp hl2
 rw [h3] at ha
 rw [h5] at ha2
 cases ha
 cases ha2
 simp only at hb
 subst hb
 rw [h4] at h6
 simp only [Option.some.injEq, Obj.cells.injEq] at h6
 exact hne h6.2.1
def keyV (x : Line) : Value := .agg #[.string x.text, .bool x.bare]
def mesF (n : Nat) : List Line → List MapEntry
 | [] => []
 | k :: ks => ⟨keyV k, .int .i64 (n : Int), n⟩ :: mesF (n + 1) ks
def mes (ks : List Line) : List MapEntry := mesF 0 ks
theorem mesF_len : ∀ (ks : List Line) (n : Nat), (mesF n ks).length = ks.length
 | [], n => rfl
 | k :: ks, n => by simp [mesF, mesF_len ks]
theorem mesF_snoc (x : Line) : ∀ (ks : List Line) (n : Nat), mesF n (ks ++ [x]) = mesF n ks ++ [⟨keyV x, .int .i64 ((n + ks.length : Nat) : Int), n + ks.length⟩]
 | [], n => by simp [mesF]
 | k :: ks, n => by simp [mesF, mesF_snoc x ks, Nat.add_comm, Nat.add_left_comm]
section
variable {P : Program} {w : World} {T : TypeId}
def lk (ks : List Line) (x : Line) : Int := if x ∈ ks then ((ks.idxOf x : Nat) : Int) else 0
def ix (ks : List Line) (x : Line) : Int := ((ks.idxOf x : Nat) : Int)
theorem lk_ix {ks : List Line} {x : Line} (h : x ∈ ks) : lk ks x = ix ks x := by simp [lk, ix, h]
theorem ix_pre {ks ks' : List Line} (hp : ks <+: ks') {x : Line} (h : x ∈ ks) : ix ks' x = ix ks x := by
 obtain ⟨t, rfl⟩ := hp
 simp only [ix, List.idxOf_append, h, if_true]
theorem ix_new {ks : List Line} {x : Line} (h : x ∉ ks) : ix (ks ++ [x]) x = ((ks.length : Nat) : Int) := by
 simp [ix, List.idxOf_append, h]
theorem ix_inj {ks : List Line} {x y : Line} (hx : x ∈ ks) (hy : y ∈ ks) (h : ix ks x = ix ks y) : x = y := by
 have h' : ks.idxOf x = ks.idxOf y := by unfold ix at h; omega
 have h1 := List.getElem_idxOf (List.idxOf_lt_length_of_mem hx)
 have h2 := List.getElem_idxOf (List.idxOf_lt_length_of_mem hy)
 rw [← h1, ← h2]
 simp only [h']
theorem row_found {ks l : List Line} {k : Nat} {x : Line} {row : List Int} (hx : l[k]? = some x) (h : x ∈ ks) (hr : row = (l.take k).map (ix ks)) : row ++ [lk ks x] = (l.take (k + 1)).map (ix ks) := by
 rw [xAz hx, List.map_append, hr, lk_ix h]; rfl
theorem row_new {ks l : List Line} {k : Nat} {x : Line} {row : List Int} (hx : l[k]? = some x) (h : x ∉ ks) (hr : row = (l.take k).map (ix ks)) (hm : ∀ y ∈ l.take k, y ∈ ks) : row ++ [((ks.length : Nat) : Int)] = (l.take (k + 1)).map (ix (ks ++ [x])) := by
 rw [xAz hx, List.map_append, hr, List.map_cons, List.map_nil, ix_new h]
 congr 1
 exact List.map_congr_left fun y hy => (ix_pre ⟨[x], rfl⟩ (hm y hy)).symm
theorem out_next {ks ks2 : List Line} {lists : List (List Line)} {k : Nat} {l : List Line} {row : List Int} {out : List (List Int)} (hl : lists[k]? = some l) (ho : out = (lists.take k).map fun l => l.map (ix ks)) (hm : ∀ l ∈ lists.take k, ∀ x ∈ l, x ∈ ks) (hp : ks <+: ks2) (hr : row = l.map (ix ks2)) :
  out ++ [row] = (lists.take (k + 1)).map fun l => l.map (ix ks2) := by
 rw [xAz hl, List.map_append, ho, hr]
 congr 1
 exact List.map_congr_left fun l hl => List.map_congr_left fun x hx => (ix_pre hp (hm l hl x hx)).symm
theorem mem_take_succ {α : Type} {l : List α} {k : Nat} {x : α} {p : α → Prop} (hx : l[k]? = some x) (h : ∀ y ∈ l.take k, p y) (h1 : p x) : ∀ y ∈ l.take (k + 1), p y := by
 rw [xAz hx]
 intro y hy
 rcases List.mem_append.1 hy with hy | hy
 ·exact h y hy
 ·rw [List.mem_singleton.1 hy]; exact h1
theorem findAsk (heq : ∀ (w : World) (a : ByteArray) (b : Bool) (a' : ByteArray) (b' : Bool), (Op.equal T (.agg #[.string a, .bool b]) (.agg #[.string a', .bool b'])).run P w = .ok (decide ((⟨a, b⟩ : Line) = ⟨a', b'⟩)) w) (x : Line) :
  ∀ (ks : List Line) (n i : Nat), (Instr.findAsking T (keyV x) (mesF n ks) i).run P w = .ok (if x ∈ ks then some (i + ks.idxOf x, .int .i64 ((n + ks.idxOf x : Nat) : Int)) else none) w := by
 intro ks
 induction ks with
 | nil => intro n i; simp [mesF, Instr.findAsking]
 | cons k ks ih =>
  intro n i
  have h1 := heq w x.text x.bare k.text k.bare
  simp only [mesF, Instr.findAsking, keyV, Sem.run_bind, h1, Result.andThen_ok]
  by_cases e : x = k
  ·subst e
   simp
  ·have e' : ¬ k = x := fun h => e h.symm
   have ih' := ih (n + 1) (i + 1)
   simp only [keyV] at ih'
   simp only [e, decide_false, Bool.false_eq_true, if_false, ih']
   have e2 : (k == x) = false := by simpa using e'
   simp only [List.mem_cons, e, false_or, List.idxOf_cons, e2, cond_false]
   split
   ·congr 3
    ·omega
    ·congr 1; omega
   ·rfl
theorem findKey_mes {fs : Array Field} (hu : P.underlying T = some (.struct fs)) (heq : ∀ (w : World) (a : ByteArray) (b : Bool) (a' : ByteArray) (b' : Bool), (Op.equal T (.agg #[.string a, .bool b]) (.agg #[.string a', .bool b'])).run P w = .ok (decide ((⟨a, b⟩ : Line) = ⟨a', b'⟩)) w) (x : Line) (ks : List Line) :
  (Instr.findKey T (keyV x) (mes ks)).run P w = .ok (if x ∈ ks then some (ks.idxOf x, .int .i64 ((ks.idxOf x : Nat) : Int)) else none) w := by
 have h := findAsk (w := w) heq x ks 0 0
 simp only [Nat.zero_add] at h
 cases ks with
 | nil => simp [Instr.findKey, run_underlying hu, mes, mesF, Instr.findNow]
 | cons k ks =>
  simp only [Instr.findKey, Sem.run_bind, run_underlying hu, Result.andThen_ok, mes, mesF, Instr.findNow, Instr.sameNow]
  exact h
theorem checkKey_str {e : TypeId} {n : Nat} {em : Bool} {s : ByteArray} (hu : P.underlying e = some .string) : (Instr.checkKey em (n + 1) e (.string s)).run P w = .ok () w := by simp [Instr.checkKey, run_underlying hu]
theorem checkKey_bool {e : TypeId} {n : Nat} {em : Bool} {s : Bool} (hu : P.underlying e = some .bool) : (Instr.checkKey em (n + 1) e (.bool s)).run P w = .ok () w := by simp [Instr.checkKey, run_underlying hu]
theorem checkKey_line {f1 f2 : Field} {em : Bool} {x : Line} (hu : P.underlying T = some (.struct #[f1, f2])) (h1 : P.underlying f1.type = some .string) (h2 : P.underlying f2.type = some .bool) (o1 : f1.offset = 0) (o2 : f2.offset = 1)
  (a1 : ∀ w, (isAgg f1.type).run P w = .ok false w) (a2 : ∀ w, (isAgg f2.type).run P w = .ok false w) : (Instr.checkKey em 10000 T (keyV x)).run P w = .ok () w := by
 rw [show 10000 = 9998 + 1 + 1 from rfl, Instr.checkKey]
 have c1 := checkKey_str (w := w) (n := 9998) (em := em) (s := x.text) h1
 have c2 := checkKey_bool (w := w) (n := 9998) (em := em) (s := x.bare) h2
 have p1 : (part f1.type #[.string x.text, .bool x.bare] 0).run P w = .ok (.string x.text) w := by simp [part, a1]
 have p2 : (part f2.type #[.string x.text, .bool x.bare] 1).run P w = .ok (.bool x.bare) w := by simp [part, a2]
 simp only [keyV, Sem.run_bind, run_underlying hu, Result.andThen_ok]
 simp only [← Array.forIn_toList, List.forIn_cons, List.forIn_nil, o1, o2]
 by_cases n1 : f1.name = "_" <;> by_cases n2 : f2.name = "_" <;> simp [n1, n2, p1, p2, c1, c2]
variable {ρ : Operand → Value} {d : Option Tmp} {ty : TypeId} {pos : String} {af : Array Edge} {gd : Option (Nat × Bool)} {C : Gh}
theorem new_map {t : TypeId} (hH : Has w C) : ∃ g w', (execOp ρ ⟨d, .makeMap t none, ty, pos, af, gd⟩).run P w = .ok (.value (.map (some g))) w' ∧ Mp w' C g (mes []) 0 ∧ Ext w.heap.size w C w' C ∧ w.heap.size = g :=
 ⟨w.heap.size, w.alloc (.map #[] 0), by simp [execOp, Instr.makeMap], ⟨heap_alloc_new w _, fun o => hH.none o (Nat.le_refl _)⟩, alloc_ext hH _, rfl⟩
theorem r_lookupM {t e : TypeId} {g ck : Nat} {ks : List Line} {x : Line} {xm xk : Operand} {fs : Array Field} (ht : P.underlying t = some (.map T e)) (hu : P.underlying T = some (.struct fs)) (hck : ∀ w em, (Instr.checkKey em 10000 T (keyV x)).run P w = .ok () w)
  (heq : ∀ (w : World) (a : ByteArray) (b : Bool) (a' : ByteArray) (b' : Bool), (Op.equal T (.agg #[.string a, .bool b]) (.agg #[.string a', .bool b'])).run P w = .ok (decide ((⟨a, b⟩ : Line) = ⟨a', b'⟩)) w)
  (hz : ∀ w, (zeroValue e).run P w = .ok (.int .i64 0) w) (hm : Mp w C g (mes ks) ck) (hx : ρ xm = .map (some g)) (hk : ρ xk = .agg #[.string x.text, .bool x.bare]) :
  (execOp ρ ⟨d, .lookup t xm xk true, ty, pos, af, gd⟩).run P w = .ok (.value (.tuple #[.int .i64 (lk ks x), .bool (decide (x ∈ ks))])) w := by
 have hf := findKey_mes (w := w) hu heq x ks
 have hc := hck w
 simp only [keyV] at hf hc
 by_cases hxk : x ∈ ks
 ·rw [if_pos hxk] at hf
  simp only [execOp, hx, hk, Instr.lookup, Sem.run_bind, run_underlying ht, Result.andThen_ok, MapKept.run_getObj_map hm.blk, hc, hf, lk]
  simp [hxk, hc, hf]
 ·rw [if_neg hxk] at hf
  simp only [execOp, hx, hk, Instr.lookup, Sem.run_bind, run_underlying ht, Result.andThen_ok, MapKept.run_getObj_map hm.blk, hc, hf, lk]
  simp [hxk, hz, hc, hf]
theorem r_lenMap {t kt e : TypeId} {g ck : Nat} {ks : List Line} {x : Operand} (ht : P.underlying t = some (.map kt e)) (hm : Mp w C g (mes ks) ck) (hx : ρ x = .map (some g)) :
  (execOp ρ ⟨d, .call { callee := .builtin .len, args := #[x], argTypes := #[t] }, ty, pos, af, gd⟩).run P w = .ok (.value (.int .i64 ((ks.length : Nat) : Int))) w := by
 have hl : (mes ks).length = ks.length := mesF_len ks 0
 simp [execOp, resolve, invoke, builtin, Builtin.len_, run_underlying ht, hx, MapKept.run_getObj_map hm.blk, hl, goInt]
theorem new_mapUpdate {t e : TypeId} {g : Nat} {ks : List Line} {x : Line} {xm xk xv : Operand} {fs : Array Field} (ht : P.underlying t = some (.map T e)) (hu : P.underlying T = some (.struct fs)) (hck : ∀ w em, (Instr.checkKey em 10000 T (keyV x)).run P w = .ok () w)
  (heq : ∀ (w : World) (a : ByteArray) (b : Bool) (a' : ByteArray) (b' : Bool), (Op.equal T (.agg #[.string a, .bool b]) (.agg #[.string a', .bool b'])).run P w = .ok (decide ((⟨a, b⟩ : Line) = ⟨a', b'⟩)) w)
  (hm : Mp w C g (mes ks) ks.length) (hH : Has w C) (hn : x ∉ ks) (hx : ρ xm = .map (some g)) (hk : ρ xk = .agg #[.string x.text, .bool x.bare]) (hv : ρ xv = .int .i64 ((ks.length : Nat) : Int)) :
  ∃ w', (execOp ρ ⟨d, .mapUpdate t xm xk xv, ty, pos, af, gd⟩).run P w = .ok .skip w' ∧ Mut g w C w' C ∧ Mp w' C g (mes (ks ++ [x])) (ks ++ [x]).length := by
 have hf := findKey_mes (w := w) hu heq x ks
 have hc := hck w
 simp only [keyV] at hf hc
 have hsn := mesF_snoc x ks 0
 refine ⟨{ w with heap := w.heap.setIfInBounds g (.map (mes (ks ++ [x])).toArray (ks.length + 1)) }, ?_, ⟨⟨rfl, rfl, rfl, by simp, fun k _ hne => ?_⟩, fun b o v e => ?_, Gle.refl _, fun _ _ _ _ => rfl⟩, ⟨?_, hm.un⟩⟩
 ·simp only [execOp, hx, hk, hv, Instr.mapUpdate, Sem.run_bind, run_underlying ht, Result.andThen_ok, MapKept.run_getObj_map hm.blk, hc, hf, hn, if_false, MapKept.run_setObj_map _ hm.blk, Sem.run_pure]
  congr 5
  simp only [mes]
  rw [hsn]
  simp [keyV]
 ·have : k ≠ g := fun e => hne (by rw [e])
  simp [Array.getElem?_setIfInBounds, Ne.symm this]
 ·by_cases hb : b = g
  ·subst hb
   rw [hm.un o] at e
   cases e
  ·rw [World.cell?_of_block (w := w) (by simp [Array.getElem?_setIfInBounds, Ne.symm hb])]
   exact hH b o v e
 ·have := hm.lt
  simp [this]
end
section
variable {D : List Deferred} {P : Program} {N : Nat} {Q : Exit → Fr → World → Prop} {T : Fr} {w : World} {ops : Array Oper} {o : Oper} {C : Gh} {t e K : TypeId} {d : Nat}
theorem FWl.makeMap {l : List Oper} (ho : o.op = .makeMap t none) (hd : o.dst = some d) (hw : wantedF ops T o = true) (hH : Has w C)
  (h : ∀ g w', Mp w' C g (mes []) ([] : List Line).length → Ext w.heap.size w C w' C → w.heap.size = g → FWl D P N ops Q l (upd T d (.map (some g))) w') : FWl D P N ops Q (o :: l) T w := by
 obtain ⟨dst, op, ty, pos, af, gd⟩ := o; cases ho
 obtain ⟨g, w', hr, h1, h2, h3⟩ := new_map (P := P) (ρ := ev T) (d := dst) (ty := ty) (pos := pos) (af := af) (gd := gd) (t := t) hH
 exact xAm d hd hw _ _ hr (h g w' h1 h2 h3)
theorem FWl.mapUpdate {l : List Oper} {g : Nat} {ks : List Line} {x : Line} {xm xk xv : Operand} {fs : Array Field} (ho : o.op = .mapUpdate t xm xk xv) (hd : o.dst = none) (hw : wantedF ops T o = true) (ht : P.underlying t = some (.map K e)) (hu : P.underlying K = some (.struct fs)) (hck : ∀ w em, (Instr.checkKey em 10000 K (keyV x)).run P w = .ok () w)
  (heq : ∀ (w : World) (a : ByteArray) (b : Bool) (a' : ByteArray) (b' : Bool), (Op.equal K (.agg #[.string a, .bool b]) (.agg #[.string a', .bool b'])).run P w = .ok (decide ((⟨a, b⟩ : Line) = ⟨a', b'⟩)) w)
  (hm : Mp w C g (mes ks) ks.length) (hH : Has w C) (hn : x ∉ ks) (hx : ev T xm = .map (some g)) (hk : ev T xk = .agg #[.string x.text, .bool x.bare]) (hv : ev T xv = .int .i64 ((ks.length : Nat) : Int))
  (h : ∀ w', Mut g w C w' C → Mp w' C g (mes (ks ++ [x])) (ks ++ [x]).length → FWl D P N ops Q l T w') : FWl D P N ops Q (o :: l) T w := by
 obtain ⟨dst, op, ty, pos, af, gd⟩ := o; cases ho
 obtain ⟨w', hr, h1, h2⟩ := new_mapUpdate (P := P) (ρ := ev T) (d := dst) (ty := ty) (pos := pos) (af := af) (gd := gd) ht hu hck heq hm hH hn hx hk hv
 exact FWl.unit hd hw _ hr (h w' h1 h2)
end
section
variable {P : Program} {ρ : Operand → Value} {d : Option Tmp} {ty : TypeId} {pos : String} {af : Array Edge} {gd : Option (Nat × Bool)} {w : World}
theorem Sl.one {α : Type} {K : Kd α} {C : Gh} {A : Option Addr} {c : Nat} {xs : List α} {i : Nat} {y : α} (h : Sl K C A c xs) (hy : xs[i]? = some y) : Sl K C (A.map (·.add (i * K.sz))) 1 [y] := by
 obtain ⟨h1, h2⟩ := List.getElem?_eq_some_iff.1 hy
 have hd := h.drop i (c' := xs.length) (by simp)
 have ht := hd.take 1 (c' := 1) (by simp; omega)
 have e : (xs.drop i).take 1 = [y] := by rw [List.drop_eq_getElem_cons h1, h2]; rfl
 rwa [e] at ht
theorem r_sliceOne {A : Option Addr} {t e : TypeId} {n c sz i : Nat} {x xl xh xm : Operand} (hu : P.underlying t = some (.slice e)) (hs : ∀ w, (sizeOf e).run P w = .ok sz w) (hx : ρ x = .slice A n c) (hl : ρ xl = .int .i64 (i : Int)) (hh : ρ xh = .int .i64 ((i : Int) + 1)) (hm : ρ xm = .int .i64 ((i : Int) + 1)) (h3 : i + 1 ≤ c) :
  (execOp ρ ⟨d, .slice t x (some xl) (some xh) (some xm), ty, pos, af, gd⟩).run P w = .ok (.value (.slice (A.map (·.add (i * sz))) 1 1)) w := by
 rw [r_slice3 hu hs hx hl hh hm (by omega) (by omega) (by omega) (by omega), if_neg (by omega)]
 simp only [Int.toNat_natCast, show ((i : Int) + 1).toNat - i = 1 by omega]
theorem r_sliceTake {α : Type} {xs : List α} {A : Option Addr} {t e : TypeId} {n c sz : Nat} {h : Int} {x xh : Operand} (hu : P.underlying t = some (.slice e)) (hs : ∀ w, (sizeOf e).run P w = .ok sz w) (hx : ρ x = .slice A xs.length c) (hh : ρ xh = .int .i64 h) (hn : h = ((xs.take n).length : Int)) (hc : xs.length ≤ c) :
  (execOp ρ ⟨d, .slice t x none (some xh) none, ty, pos, af, gd⟩).run P w = .ok (.value (.slice A (xs.take n).length c)) w := by
 have hl : (xs.take n).length ≤ xs.length := by rw [List.length_take]; omega
 rw [r_sliceH hu hs hx hh (by omega) (by omega), map_add0, hn, Int.toNat_natCast]
 simp
theorem r_indexArrS {x ix : Operand} {t e : TypeId} {k : IntKind} {i : Int} {n g o sz o' : Nat} (hu : P.underlying t = some (.array n e)) (hs : ∀ w, (sizeOf e).run P w = .ok sz w) (hx : ρ x = .pointer (some ⟨g, o, none⟩)) (hi : ρ ix = .int k i) (h0 : 0 ≤ i) (h1 : i < n) (ho : o + i.toNat * sz = o') :
  (execOp ρ ⟨d, .indexAddr t x ix, ty, pos, af, gd⟩).run P w = .ok (.value (.pointer (some ⟨g, o', none⟩))) w := by
 subst ho
 simp [execOp, Instr.indexAt, asIntOf, underlying, hu, hx, hi, h0, h1, hs, Instr.sureAddr, xAu]
end
end Go.Proofs.YtlofomkhiefbmaaGreatDoor

namespace Go.Proofs.YtlofomkhiefbmaaGreatDoor
open Go.RowKit
def FWL (D : List Deferred) (P : Program) (N : Nat) (c : Code) (Q : Exit → Fr → World → Prop) (T : Fr) (w : World) : Prop :=
 ∀ F, Loose F → ∀ a, Rel N D T a → ∀ (b : Frame) (k : List Item) (cs : List Frame), b.roundOf = F.round → F.fn b.fn → F.room (cs.length + 1 + 0) → ∃ e a' w', wrap N D Q e a' w' ∧ ArrivesIn (Machine.fenced P F) P (lone (b.atR a (.code c :: .inLoop c :: k)) cs w) b k cs e a' w'
section
variable {D : List Deferred} {P : Program} {N : Nat} {c : Code} {Q : Exit → Fr → World → Prop} {T : Fr} {w : World}
theorem xBA (h : FWL D P N c Q T w) : FW D P N (.loop c) Q T w := by
 intro F hF a ha b k cs h1 h2 h3
 obtain ⟨e, a', w', hq, harr⟩ := h F hF a ha b k cs h1 h2 h3
 exact ⟨e, a', w', hq, .of_steps (.one (fenced_calm h2 h3 rfl) stepR_loop) harr⟩
theorem FWL.unroll (h : FW D P N c (thenF (fun T w => FWL D P N c Q T w) Q) T w) : FWL D P N c Q T w := by
 intro F hF a ha b k cs k1 k2 k3
 obtain ⟨e, a₁, w₁, hq, harr⟩ := h F hF a ha b (.inLoop c :: k) cs k1 k2 k3
 cases e with
 | normal =>
  obtain ⟨T₁, hr, hI⟩ := hq
  obtain ⟨e₂, a₂, w₂, hq₂, harr₂⟩ := hI F hF a₁ hr b k cs k1 k2 k3
  exact ⟨e₂, a₂, w₂, hq₂, .of_steps (StepsIn.trans harr (.one (fenced_calm k2 k3 rfl) stepR_inLoop)) harr₂⟩
 | exit id => exact ⟨.exit id, a₁, w₁, hq, .pass (x := .inLoop c) rfl (fun _ _ => .inl (by simp)) harr⟩
 | goto l => exact ⟨.goto l, a₁, w₁, hq, .pass (x := .inLoop c) rfl (fun _ _ => .inl (by simp)) harr⟩
 | ret => exact ⟨.ret, a₁, w₁, hq, .pass (x := .inLoop c) rfl (fun _ _ => .inl (by simp)) harr⟩
 | panic ch => exact hq.elim
 | outgrown => exact hq.elim
theorem xAq (h : FW D P N c (thenF (fun T w => FWL D P N c Q T w) Q) T w) : thenF (fun T w => FWL D P N c Q T w) Q .normal T w := FWL.unroll h
end
def noGotoF (Q : Exit → Fr → World → Prop) : Exit → Fr → World → Prop
 | .goto _, _, _ => False
 | e, T, w => Q e T w
section
variable {D : List Deferred} {P : Program} {N : Nat} {c : Code} {Q : Exit → Fr → World → Prop} {T : Fr} {w : World}
theorem noGotoF_ret (h : Q .ret T w) : noGotoF Q .ret T w := h
theorem stepR_scope {b : Frame} {a : Act} {k : List Item} {cs : List Frame} : step P (lone (b.atR a (.code (.scope c) :: k)) cs w) = .next (lone (b.atR a (.code c :: .inScope c :: k)) cs w) :=
 step_lone_go (by simp [stepG, stepG.exec, Frame.atR])
theorem stepR_inScope {b : Frame} {a : Act} {k : List Item} {cs : List Frame} : step P (lone (b.atR a (.inScope c :: k)) cs w) = .next (lone (b.atR a k) cs w) :=
 step_lone_go (by simp [stepG, stepG.exec, Frame.atR])
theorem FW.scope (h : FW D P N c (noGotoF Q) T w) : FW D P N (.scope c) Q T w := by
  intro F hF a ha b k cs k1 k2 k3
  obtain ⟨e, a₁, w₁, hq, harr⟩ := h F hF a ha b (.inScope c :: k) cs k1 k2 k3
  have h0 : (lone (b.atR a (.code (.scope c) :: k)) cs w).fenced P F := fenced_calm k2 k3 rfl
  cases e with
  | normal => exact ⟨.normal, a₁, w₁, hq, .head h0 stepR_scope (StepsIn.trans harr (.one (fenced_calm k2 k3 rfl) stepR_inScope))⟩
  | exit id => exact ⟨.exit id, a₁, w₁, hq, fun k' hk => .head h0 stepR_scope (harr.1 k' (by simp [exitTo, hk])), fun hr hk => by
      obtain ⟨k₁, e1, e2⟩ := harr.2 hr (by simp [exitTo, hk])
      exact ⟨k₁, e1, .head h0 stepR_scope e2⟩⟩
  | goto l => obtain ⟨_, _, h⟩ := hq; exact h.elim
  | ret => exact ⟨.ret, a₁, w₁, hq, .of_steps (.one h0 stepR_scope) harr⟩
  | panic ch => exact hq.elim
  | outgrown => exact hq.elim
end
theorem Sl.lit {α : Type} {K : Kd α} {C : Gh} {A : Option Addr} {c : Nat} {xs ys : List α} (h : Sl K C A c xs) (e : xs = ys) : Sl K C A c ys := e ▸ h
def bt (l : List UInt8) : List Int := l.map fun b => (b.toNat : Int)
section
variable {P : Program} {ρ : Operand → Value} {d : Option Tmp} {ty : TypeId} {pos : String} {af : Array Edge} {gd : Option (Nat × Bool)} {w : World} {C : Gh} {t t' e : TypeId} {x : Operand}
theorem sl_cells {A : Option Addr} {c : Nat} {l : List UInt8} (h : Sl (kInt .u8) C A c (bt l)) (hp : 0 < l.length) : ∃ a, A = some a ∧ ∀ w, Has w C → ∀ j (hj : j < l.length), w.cell? (a.add j) = some (.int .u8 (l[j].toNat : Int)) := by
 obtain ⟨g, o, rfl⟩ : ∃ g o, A = some ⟨g, o, none⟩ := by
  obtain ⟨cs, hr, hsg⟩ := h.row
  obtain ⟨g2, o2, h1, _⟩ := hsg (by simpa [bt] using hp)
  exact ⟨g2, o2, h1⟩
 refine ⟨_, rfl, fun w hH j hj => ?_⟩
 have hx : (bt l)[j]? = some (l[j].toNat : Int) := by simp [bt, hj]
 obtain ⟨cs, hr, hg⟩ := h.at_ j _ hx
 have hr' : cs = [.int .u8 (l[j].toNat : Int)] := hr
 subst hr'
 obtain ⟨g', o', hA, hs⟩ := hg
 cases hA
 have := hs 0 _ rfl
 simp only [kInt, Nat.mul_one, Nat.add_zero] at this
 rw [xAu]
 exact hH _ _ _ this
theorem r_bytesStr {A : Option Addr} {c : Nat} {l : List UInt8} {xs : List Int} {r : ByteArray} (hs : P.underlying t = some (.slice e)) (he : P.underlying e = some (.int .u8)) (hd : P.underlying t' = some .string) (h : Sl (kInt .u8) C A c xs) (hxs : xs = bt l) (hr : (⟨l.toArray⟩ : ByteArray) = r) (hp : 0 < l.length) (hH : Has w C) (hx : ρ x = .slice A xs.length c) :
  (execOp ρ ⟨d, .convert t t' x, ty, pos, af, gd⟩).run P w = .ok (.value (.string r)) w := by
 subst hxs hr
 obtain ⟨a, rfl, hc⟩ := sl_cells h hp
 have hl : (bt l).length = l.length := by simp [bt]
 rw [hl] at hx
 simp only [execOp, hx, Sem.run_bind, run_convert_bytes_back w t t' e a c l hs he hd (hc w hH), Result.andThen_ok, Sem.run_pure]
theorem r_sliceHM {A : Option Addr} {n c sz : Nat} {h m : Int} {xh xm : Operand} (hu : P.underlying t = some (.slice e)) (hs : ∀ w, (sizeOf e).run P w = .ok sz w) (hx : ρ x = .slice A n c) (hh : ρ xh = .int .i64 h) (hm : ρ xm = .int .i64 m) (h0 : 0 ≤ h) (h1 : h ≤ m) (h2 : m ≤ c) :
  (execOp ρ ⟨d, .slice t x none (some xh) (some xm), ty, pos, af, gd⟩).run P w = .ok (.value (.slice A h.toNat m.toNat)) w := by
 have e1 : 0 ≤ m := by omega
 have e2 : max m 0 = m := by omega
 simp [execOp, hx, hh, hm, Instr.sliceAt, Instr.slice, underlying, hu, Instr.sliceBounds, Instr.sliceBound, asIntOf, e1, e2, h0, h1, h2, hs, Int.toNat_of_nonneg]
 exact fun _ => map_add0 A
theorem r_min2E {x y : Operand} {ts : Array TypeId} {k : IntKind} {a b c : Int} (hx : ρ x = .int k a) (hy : ρ y = .int k b) (he : min a b = c) :
  (execOp ρ ⟨d, .call { callee := .builtin .min, args := #[x, y], argTypes := ts }, ty, pos, af, gd⟩).run P w = .ok (.value (.int k c)) w := by subst he; exact r_min2 hx hy
theorem r_bytesStrSt {g o c : Nat} {l : List UInt8} {r : ByteArray} (hs : P.underlying t = some (.slice e)) (he : P.underlying e = some (.int .u8)) (hd : P.underlying t' = some .string) (hc : ∀ j (hj : j < l.length), w.cell? ⟨g, o + j, none⟩ = some (.int .u8 (l[j].toNat : Int))) (hr : (⟨l.toArray⟩ : ByteArray) = r) (hx : ρ x = .slice (some ⟨g, o, none⟩) l.length c) :
  (execOp ρ ⟨d, .convert t t' x, ty, pos, af, gd⟩).run P w = .ok (.value (.string r)) w := by
 subst hr
 simp only [execOp, hx, Sem.run_bind, run_convert_bytes_back w t t' e ⟨g, o, none⟩ c l hs he hd (fun j hj => by rw [xAu]; exact hc j hj), Result.andThen_ok, Sem.run_pure]
theorem r_sliceArrL {g n sz : Nat} {l : Int} {xl : Operand} (hu : P.underlying t = some (.array n e)) (hs : ∀ w, (sizeOf e).run P w = .ok sz w) (hx : ρ x = .pointer (some ⟨g, 0, none⟩)) (hl : ρ xl = .int .i64 l) (h0 : 0 ≤ l) (h1 : l < n) :
  (execOp ρ ⟨d, .slice t x (some xl) none none, ty, pos, af, gd⟩).run P w = .ok (.value (.slice (some ⟨g, l.toNat * sz, none⟩) (n - l.toNat) (n - l.toNat))) w := by
 have e1 : l ≤ n := by omega
 have e2 : ¬ n = l.toNat := by omega
 simp [execOp, hx, hl, Instr.sliceAt, underlying, hu, Instr.sliceBounds, Instr.sliceBound, asIntOf, h0, e1, e2, hs, Int.toNat_of_nonneg, Instr.sureAddr, xAu]
theorem r_concatE {s s' r : ByteArray} {x y : Operand} (hx : ρ x = .string s) (hy : ρ y = .string s') (h : s.size + s'.size ≤ 9223372036854775807) (he : s ++ s' = r) : (execOp ρ ⟨d, .binOp .add t x y t', ty, pos, af, gd⟩).run P w = .ok (.value (.string r)) w := by
 subst he; exact r_concat hx hy h
theorem new_litG {α : Type} {K : Kd α} {len : Nat} {parts : Array (Nat × Operand)} {xs : List α} {cs : List Value} {ie : TypeInfo} {z : Value} (hu : P.underlying t = some (.slice e)) (hie : P.info? e = some ie) (hz : ie.zero = some z)
  (hsmall : (Nat.ble (len * ie.size) 16777216 && Nat.blt 0 (len * ie.size)) = true)
  (hf : Instr.fill (fun i => some (i * ie.size, ie.size)) ((Array.range (len * ie.size)).map (z.cells[· % z.cells.size]!)) (parts.map fun (i, x) => (i, ρ x)).toList = some cs.toArray)
  (hr : RowR K C xs cs) (hl : xs.length = len) (hH : Has w C) :
  ∃ g w' C', (execOp ρ ⟨d, .buildSlice t len parts, ty, pos, af, gd⟩).run P w = .ok (.value (.slice (some ⟨g, 0, none⟩) len len)) w' ∧ Sl K C' (some ⟨g, 0, none⟩) len xs ∧ Ext w.heap.size w C w' C' ∧ w.heap.size = g ∧ g < w'.heap.size := by
 simp only [Bool.and_eq_true] at hsmall
 have h1 := Nat.le_of_ble_eq_true hsmall.1
 have h2 := lt_of_blt hsmall.2
 have hb : len ≤ 16777216 := by
  rcases Nat.eq_zero_or_pos ie.size with h0 | h0
  ·rw [h0] at h2; simp at h2
  ·exact Nat.le_trans (Nat.le_mul_of_pos_right _ h0) h1
 refine ⟨w.heap.size, w.alloc (.cells cs.toArray e), commit C w.heap.size 0 cs, ?_, ?_, ?_, rfl, blk_lt' (heap_alloc_new w _)⟩
 ·simp only [execOp, Sem.run_bind, run_buildSlice w t e len _ cs.toArray ie z hu hie hz (by omega) (by omega) hf, Result.andThen_ok, Sem.run_pure]
 ·have hle : Gle C (commit C w.heap.size 0 cs) := commit_le fun k _ _ => hH.none k (Nat.le_refl _)
  exact Sl.of_row (hr.mono hle) (commit_seg _ _ _ _) (by omega) (by omega)
 ·have hle : Gle C (commit C w.heap.size 0 cs) := commit_le fun k _ _ => hH.none k (Nat.le_refl _)
  refine ⟨(Below.refl _ w).alloc (Nat.le_refl _) _, commit_has (alloc_ext hH _).has fun i v hi => ?_, hle, fun b o hb => commit_ne _ _ _ (by omega) _⟩
  have hn := heap_alloc_new w (.cells cs.toArray e)
  simp only [World.cell?, hn, Nat.zero_add]
  simpa using hi
theorem freeze_mut (g k n : Nat) (hH : Has w C) : Mut g w C (w.freeze ⟨g, k, none⟩ n) C := by
 unfold World.freeze
 split
 ·exact ⟨⟨rfl, rfl, rfl, Nat.le_refl _, fun _ _ _ => rfl⟩, hH, Gle.refl _, fun _ _ _ _ => rfl⟩
 ·refine ⟨⟨rfl, rfl, rfl, by simp, fun k' _ hne => ?_⟩, fun b o v e => ?_, Gle.refl _, fun _ _ _ _ => rfl⟩
  ·have : g ≠ k' := fun e => hne (by rw [e])
   simp [Array.getElem?_modify, this]
  ·by_cases hb : b = g
   ·subst hb
    have := hH b o v e
    simp only [World.cell?] at this ⊢
    rw [Array.getElem?_modify, if_pos rfl]
    cases hq : w.heap[b]? with
    | none => rw [hq] at this; simp at this
    | some ob =>
     rw [hq] at this
     cases ob with
     | cells c e' fr => simpa using this
     | _ => simp at this
   ·rw [World.cell?_of_block (w := w) (by simp [Array.getElem?_modify, Ne.symm hb])]
    exact hH b o v e
theorem new_convSame {g n c : Nat} (hs : P.underlying t = some (.slice e)) (he : P.underlying e = some (.int .u8)) (hx : ρ x = .slice (some ⟨g, 0, none⟩) n c) (hH : Has w C) :
  ∃ w', (execOp ρ ⟨d, .convert t t x, ty, pos, af, gd⟩).run P w = .ok (.value (.slice (some ⟨g, 0, none⟩) n c)) w' ∧ Mut g w C w' C := by
 have hrun : ∃ w', (convert t t (.slice (some ⟨g, 0, none⟩) n c)).run P w = .ok (.slice (some ⟨g, 0, none⟩) n c) w' ∧ Mut g w C w' C := by
  cases hq : w.shape? g with
  | none => exact ⟨w, by simp [convert, run_underlying hs, run_underlying he, markStringish, hq], ⟨⟨rfl, rfl, rfl, Nat.le_refl _, fun _ _ _ => rfl⟩, hH, Gle.refl _, fun _ _ _ _ => rfl⟩⟩
  | some p => exact ⟨w.freeze ⟨g, p.2, none⟩ 1, by simp [convert, run_underlying hs, run_underlying he, markStringish, hq], freeze_mut _ _ _ hH⟩
 obtain ⟨w', h1, h2⟩ := hrun
 exact ⟨w', by simp only [execOp, hx, Sem.run_bind, h1, Result.andThen_ok, Sem.run_pure], h2⟩
end
section
variable {D : List Deferred} {P : Program} {N : Nat} {Q : Exit → Fr → World → Prop} {T : Fr} {w : World} {ops : Array Oper} {o : Oper} {C : Gh} {t e : TypeId} {d : Nat} {x : Operand}
theorem FWl.litG {α : Type} {K : Kd α} {len : Nat} {parts : Array (Nat × Operand)} {xs : List α} {cs : List Value} {ie : TypeInfo} {z : Value} {l : List Oper} (ho : o.op = .buildSlice t len parts) (hd : o.dst = some d) (hw : wantedF ops T o = true) (hu : P.underlying t = some (.slice e)) (hie : P.info? e = some ie) (hz : ie.zero = some z)
  (hsmall : (Nat.ble (len * ie.size) 16777216 && Nat.blt 0 (len * ie.size)) = true)
  (hf : Instr.fill (fun i => some (i * ie.size, ie.size)) ((Array.range (len * ie.size)).map (z.cells[· % z.cells.size]!)) (parts.map fun (i, x) => (i, ev T x)).toList = some cs.toArray)
  (hr : RowR K C xs cs) (hl : xs.length = len) (hH : Has w C)
  (h : ∀ g w' C', Sl K C' (some ⟨g, 0, none⟩) len xs → Ext w.heap.size w C w' C' → w.heap.size = g → g < w'.heap.size → FWl D P N ops Q l (upd T d (.slice (some ⟨g, 0, none⟩) len len)) w') : FWl D P N ops Q (o :: l) T w := by
 obtain ⟨dst, op, ty, pos, af, gd⟩ := o; cases ho
 obtain ⟨g, w', C', hrun, h1, h2, h3, h4⟩ := new_litG (P := P) (ρ := ev T) (d := dst) (ty := ty) (pos := pos) (af := af) (gd := gd) hu hie hz hsmall hf hr hl hH
 exact xAm d hd hw _ _ hrun (h g w' C' h1 h2 h3 h4)
theorem FWl.convSame {g n c : Nat} {l : List Oper} (ho : o.op = .convert t t x) (hd : o.dst = some d) (hw : wantedF ops T o = true) (hs : P.underlying t = some (.slice e)) (he : P.underlying e = some (.int .u8)) (hx : ev T x = .slice (some ⟨g, 0, none⟩) n c) (hH : Has w C)
  (h : ∀ w', Mut g w C w' C → FWl D P N ops Q l (upd T d (.slice (some ⟨g, 0, none⟩) n c)) w') : FWl D P N ops Q (o :: l) T w := by
 obtain ⟨dst, op, ty, pos, af, gd⟩ := o; cases ho
 obtain ⟨w', hrun, h1⟩ := new_convSame (P := P) (ρ := ev T) (d := dst) (ty := ty) (pos := pos) (af := af) (gd := gd) hs he hx hH
 exact xAm d hd hw _ _ hrun (h w' h1)
end
end Go.Proofs.YtlofomkhiefbmaaGreatDoor

namespace Go.Proofs.YtlofomkhiefbmaaGreatDoor
open Go.RowKit
def bRows (s : ByteArray) : List (List Value) := s.data.toList.map fun b => [Value.int .u8 b.toNat]
theorem bRows_len (s : ByteArray) : (bRows s).length = s.size := by rw [bRows, List.length_map, Array.length_toList]; rfl
theorem bRows_flat (s : ByteArray) : (bRows s).flatten = Lib.strCells s := by
 unfold bRows Lib.strCells
 induction s.data.toList with
 | nil => rfl
 | cons b l ih => simp only [List.map_cons, List.flatten_cons, ih]; rfl
section
variable {P : Program} {ρ : Operand → Value} {d : Option Tmp} {ty : TypeId} {pos : String} {af : Array Edge} {gd : Option (Nat × Bool)} {w : World}
theorem r_appendStr {C : Gh} {B e t u : Nat} {ie : TypeInfo} {A : Option Addr} {c : Nat} {rows : List (List Value)} {s : ByteArray} {x x2 : Operand}
  (ht : P.underlying t = some (.slice e)) (hu : P.underlying u = some .string) (hi : P.info? e = some ie) (hz : ie.zero = some (.int .u8 0)) (hsz : ie.size = 1) (hby : ie.bytes = 1)
  (hx : ρ x = .slice A rows.length c) (hy : ρ x2 = .string s) (h : MRow B e 1 w C A c rows) (hH : Has w C) (hB : B ≤ w.heap.size) (hlen : rows.length + s.size ≤ 140737488355328) :
  ∃ A' c' w', (execOp ρ ⟨d, .call { callee := .builtin .append, args := #[x, x2], argTypes := #[t, u] }, ty, pos, af, gd⟩).run P w = .ok (.value (.slice A' (rows ++ bRows s).length c')) w' ∧ MRow B e 1 w' C A' c' (rows ++ bRows s) ∧
   Ext B w C w' C ∧ (∀ k cs t', St w C k cs t' → t' ≠ e → St w' C k cs t') ∧ (∀ B2 e2 sz2 A3 n3 c3, Own B2 e2 sz2 w C A3 n3 c3 → e2 ≠ e → Own B2 e2 sz2 w' C A3 n3 c3) ∧ (∀ k, k < w.heap.size → (∀ cs, ¬ St w C k cs e) → w'.heap[k]? = w.heap[k]?) := by
 have hown : w.ownsRow B e 1 (.slice A rows.length c) rows.length rows.flatten := by
  rcases h with ⟨rfl, rfl, rfl⟩ | ⟨g, spare, rfl, h2, h3, h4, h5, h6, h7⟩
  ·exact World.ownsRow_nil _ _ _ _
  ·have hfl := flatten_len (fun r hr => (h7 r hr).1)
   exact ⟨hfl, .inr ⟨g, c, _, rfl, h2, h3.blk, h4, by simp only [maxLen]; omega, by simpa using h6, by rw [← hfl]; simp⟩⟩
 obtain ⟨v', w', hrun, hown', hgr, _⟩ := Lib.run_append_own_string (P := P) w B t u ty e ie ht hu hi hz hsz hby (.slice A rows.length c) rows.length rows.flatten hown s (by simp only [maxLen]; omega) (by omega) hB
 have hat : v'.ownBlock = (Value.slice A rows.length c).ownBlock ∨ v'.ownBlock = some w.heap.size := by
  rcases h with ⟨rfl, rfl, rfl⟩ | ⟨g, spare, rfl, h2, h3, h4, h5, h6, h7⟩
  ·by_cases hm : s.size = 0
   ·left
    have hf := Lib.run_firstCells_string (P := P) w 1 s
    rw [hm] at hf
    have : (Builtin.append_ #[t, u] ty #[.slice none 0 0, .string s]).run P w = .ok (.slice none 0 0) w := by
     simp [Builtin.append_, run_underlying ht, run_underlying hu, sizeOf, typeInfo, hi, hsz, Builtin.lenOf, hm, hf]
    have e := this.symm.trans hrun
    injection e with e1 e2
    rw [← e1]; rfl
   ·right
    have hr := run_append_nil_string (P := P) w t u ty e ie (.int .u8 0) ht hu hi hz s (by omega) (by omega) (by rw [hby]; simp at hlen; omega)
    have e := hr.symm.trans hrun
    injection e with e1 e2
    rw [← e1]; rfl
  ·have hfl := flatten_len (fun r hr => (h7 r hr).1)
   by_cases hroom : rows.length + s.size ≤ c
   ·left
    have hsz2 : (rows.flatten ++ spare).toArray.size = c := by rw [List.size_toArray, h6]; omega
    have hr := Lib.run_append_room_string (P := P) w t u ty e ie ht hu hi hsz g rows.length c _ h3.blk s hroom (by rw [hsz2]; exact hroom)
    have e := hr.symm.trans hrun
    injection e with e1 e2
    rw [← e1]; rfl
   ·right
    have holds : ∀ j u, rows.flatten[j]? = some u → w.cell? ((⟨g, 0, none⟩ : Addr).add j) = some u := hown.cells (g := g) rfl
    have hr := Lib.run_append_grow_string (P := P) w t u ty e ie (.int .u8 0) ht hu hi hz ⟨g, 0, none⟩ rows.length c rows.flatten (by rw [hsz]; exact hfl) holds s (by omega) (by omega) (by rw [hby]; exact growslice_fits (by omega) (by omega))
    have e := hr.symm.trans hrun
    injection e with e1 e2
    rw [← e1]; rfl
 have hblk : ∀ k, (Value.slice A rows.length c).ownBlock = some k → B ≤ k ∧ ∃ cs, St w C k cs e := by
  intro k hk
  rcases h with ⟨rfl, rfl, rfl⟩ | ⟨g, spare, rfl, h2, h3, _⟩
  ·simp [Value.ownBlock] at hk
  ·simp [Value.ownBlock] at hk
   subst hk
   exact ⟨h2, _, h3⟩
 have hne : ∀ k cs t', St w C k cs t' → t' ≠ e → some k ≠ (Value.slice A rows.length c).ownBlock := fun k cs t' hs hne' he => by
  obtain ⟨_, cs', hs'⟩ := hblk k he.symm
  exact hs.ne_type hs' hne' rfl
 have hHas : Has w' C := fun b o v hv => by
  refine (World.cell?_of_block (w := w) (hgr.block b (hH.lt hv) (fun he => ?_))).trans (hH _ _ _ hv)
  obtain ⟨_, cs', hs'⟩ := hblk b he.symm
  rw [hs'.un o] at hv
  cases hv
 obtain ⟨hl', hform⟩ := hown'
 rcases hform with ⟨hv0, hn0⟩ | ⟨g, cap, cur, rfl, hgB, hg', hnc, hcm, hcs, htake⟩
 ·have hr0 : rows = [] := List.eq_nil_of_length_eq_zero (by omega)
  have hs0 : s.size = 0 := by omega
  have hb0 : bRows s = [] := List.eq_nil_of_length_eq_zero (by rw [bRows_len]; exact hs0)
  subst hv0
  refine ⟨none, 0, w', ?_, .inl ⟨rfl, rfl, by rw [hr0, hb0]; rfl⟩, ?_, fun k cs t' hs hne' => ?_, fun B2 e2 sz2 A3 n3 c3 ho3 hne3 => ?_, fun k hk hn => hgr.block k hk fun he => ?_⟩
  ·rw [hr0, hb0]
   simp [execOp, resolve, invoke, builtin, hx, hy, hrun]
  ·exact ⟨⟨hgr.os, hgr.tape, hgr.output, hgr.size, fun k hk => hgr.block k (by omega) (fun he => by have := (hblk k he.symm).1; omega)⟩, hHas, Gle.refl _, fun _ _ _ => rfl⟩
  ·exact ⟨(hgr.block k hs.lt (hne k cs t' hs hne')).trans hs.blk, hs.un⟩
  ·refine ⟨ho3.le, fun hl => ?_⟩
   obtain ⟨g3, o3, cs3, k1, k2, k3, k4⟩ := ho3.sp hl
   refine ⟨g3, o3, cs3, k1, k2, (hgr.block g3 (blk_lt' k3) (fun he => ?_)).trans k3, k4⟩
   obtain ⟨_, cs', hs'⟩ := hblk g3 he.symm
   have := k3.symm.trans hs'.blk
   simp only [Option.some.injEq, Obj.cells.injEq] at this
   exact hne3 this.2.1
  ·obtain ⟨_, cs', hs'⟩ := hblk k he.symm
   exact hn _ hs'
 have hun : ∀ o, C g o = none := fun o => by
  rcases hat with hat | hat
  ·obtain ⟨_, cs', hs'⟩ := hblk g (by rw [← hat]; rfl)
   exact hs'.un o
  ·have : g = w.heap.size := by simpa [Value.ownBlock] using hat
   exact hH.none o (by omega)
 have hrows : ∀ r' ∈ rows ++ bRows s, r'.length = 1 ∧ ∀ v ∈ r', v.oneCell' = true := fun r' hr' => by
  rcases List.mem_append.1 hr' with hr' | hr'
  ·rcases h with ⟨_, _, rfl⟩ | ⟨g, spare, rfl, h2, h3, h4, h5, h6, h7⟩
   ·simp at hr'
   ·exact h7 r' hr'
  ·obtain ⟨v, _, rfl⟩ := List.mem_map.1 hr'
   exact ⟨rfl, fun u hu => by rw [List.mem_singleton.1 hu]; rfl⟩
 refine ⟨some ⟨g, 0, none⟩, cap, w', ?_, .inr ⟨g, cur.toList.drop ((rows.length + s.size) * 1), rfl, hgB, ⟨?_, hun⟩, ?_, ?_, ?_, hrows⟩, ?_, fun k cs t' hs hne' => ?_, fun B2 e2 sz2 A3 n3 c3 ho3 hne3 => ?_, fun k hk hn => hgr.block k hk fun he => ?_⟩
 ·rw [List.length_append, bRows_len]
  simp [execOp, resolve, invoke, builtin, hx, hy, hrun]
 ·rw [hg']
  have : (rows ++ bRows s).flatten = rows.flatten ++ Lib.strCells s := by rw [List.flatten_append, bRows_flat]
  rw [this, ← htake, List.take_append_drop]
 ·rw [List.length_append, bRows_len]; exact hnc
 ·simpa only [maxLen] using hcm
 ·have : (rows ++ bRows s).flatten = rows.flatten ++ Lib.strCells s := by rw [List.flatten_append, bRows_flat]
  rw [this, ← htake, List.take_append_drop]
  simpa using hcs
 ·exact ⟨⟨hgr.os, hgr.tape, hgr.output, hgr.size, fun k hk => hgr.block k (by omega) (fun he => by have := (hblk k he.symm).1; omega)⟩, hHas, Gle.refl _, fun _ _ _ => rfl⟩
 ·exact ⟨(hgr.block k hs.lt (hne k cs t' hs hne')).trans hs.blk, hs.un⟩
 ·refine ⟨ho3.le, fun hl => ?_⟩
  obtain ⟨g3, o3, cs3, k1, k2, k3, k4⟩ := ho3.sp hl
  refine ⟨g3, o3, cs3, k1, k2, (hgr.block g3 (blk_lt' k3) (fun he => ?_)).trans k3, k4⟩
  obtain ⟨_, cs', hs'⟩ := hblk g3 he.symm
  have := k3.symm.trans hs'.blk
  simp only [Option.some.injEq, Obj.cells.injEq] at this
  exact hne3 this.2.1
 ·obtain ⟨_, cs', hs'⟩ := hblk k he.symm
  exact hn _ hs'
theorem r_eqlPtrNil {t t' : TypeId} {x y : Operand} {q : Option Addr} (hu : P.underlying t = some (.pointer (P.pointee t))) (hx : ρ x = .pointer q) (hy : ρ y = .pointer none) :
  (execOp ρ ⟨d, .binOp .eql t x y t', ty, pos, af, gd⟩).run P w = .ok (.value (.bool q.isNone)) w := by
 simp [execOp, hx, hy, eqGuard, run_eql_pointer_nil w t q hu]
theorem r_neqPtrSame {t t' te : TypeId} {j : TypeInfo} {x y : Operand} {a : Addr} (hu : P.underlying t = some (.pointer te)) (hte : P.info? te = some j) (hx : ρ x = .pointer (some a)) (hy : ρ y = .pointer (some a)) :
  (execOp ρ ⟨d, .binOp .neq t x y t', ty, pos, af, gd⟩).run P w = .ok (.value (.bool false)) w := by
 simp [execOp, hx, hy, eqGuard, Lib.run_neq_ptr_same w a hu hte]
theorem r_toUnsafe {src dst t e : TypeId} {j : TypeInfo} {x : Operand} {C : Gh} {g : Nat} {cs : List Value} (hs : P.underlying src = some (.pointer t)) (hd : P.underlying dst = some .unsafePointer) (ht : P.info? t = some j) (hj : j.size ≠ 0) (hst : St w C g cs e) (hc : 0 < cs.length) (hx : ρ x = .pointer (some ⟨g, 0, none⟩)) :
  (execOp ρ ⟨d, .convert src dst x, ty, pos, af, gd⟩).run P w = .ok (.value (.pointer (some ⟨g, 0, none⟩))) w := by
 have hsh : w.shape? g = some (e, cs.length) := by simp [World.shape?, hst.blk]
 simp only [execOp, hx, Sem.run_bind, Lib.run_to_unsafe w ⟨g, 0, none⟩ hs hd ht hj hsh hc, Result.andThen_ok, Sem.run_pure]
theorem r_fromUnsafe {src dst u e : TypeId} {j : TypeInfo} {x : Operand} {C : Gh} {g : Nat} {cs : List Value} (hs : P.underlying src = some .unsafePointer) (hd : P.underlying dst = some (.pointer u)) (hu : P.info? u = some j) (hst : St w C g cs e) (hl : liesAt P P.depth e (cs.length / P.cellsOf e) 0 u 1 = true) (hx : ρ x = .pointer (some ⟨g, 0, none⟩)) :
  (execOp ρ ⟨d, .convert src dst x, ty, pos, af, gd⟩).run P w = .ok (.value (.pointer (some ⟨g, 0, none⟩))) w := by
 have hsh : w.shape? g = some (e, cs.length) := by simp [World.shape?, hst.blk]
 simp only [execOp, hx, Sem.run_bind, Lib.run_from_unsafe w ⟨g, 0, none⟩ hs hd hu hsh hl, Result.andThen_ok, Sem.run_pure]
theorem r_noEscape {f : FuncId} {fn : Func} {ts : Array TypeId} {x : Operand} {v : Value} (hf : P.funcs[f]? = some fn) (hname : (fn.name == "runtime.NumGoroutine") = false) (hb : fn.body.isNone = true) (hn : Extern.findNext fn = none) (he : Extern.find fn = some Extern.AbiNoEscape.same) (hfv : ρ (.func f) = .func (.func f) #[] #[]) (hx : ρ x = v) :
  (execOp ρ ⟨d, .call { callee := .value (.func f), args := #[x], argTypes := ts }, ty, pos, af, gd⟩).run P w = .ok (.value v) w := by
 have h := run_callFunc_extern hf hname hb hn he #[v] w
 rw [Lib.run_noEscape] at h
 simp [execOp, resolve, hfv, Deferred.ofValue, invoke, hx, h]
end
section
variable {D : List Deferred} {P : Program} {N : Nat} {Q : Exit → Fr → World → Prop} {T : Fr} {w : World} {ops : Array Oper} {o : Oper} {C : Gh} {B e t u d : Nat} {ie : TypeInfo} {A : Option Addr} {c : Nat} {rows : List (List Value)} {s : ByteArray} {x x2 : Operand}
theorem FWl.appStr {l : List Oper} (ho : o.op = .call { callee := .builtin .append, args := #[x, x2], argTypes := #[t, u] }) (hd : o.dst = some d) (hw : wantedF ops T o = true)
  (ht : P.underlying t = some (.slice e)) (hu : P.underlying u = some .string) (hi : P.info? e = some ie) (hz : ie.zero = some (.int .u8 0)) (hsz : ie.size = 1) (hby : ie.bytes = 1)
  (hx : ev T x = .slice A rows.length c) (hy : ev T x2 = .string s) (h : MRow B e 1 w C A c rows) (hH : Has w C) (hB : B ≤ w.heap.size) (hlen : rows.length + s.size ≤ 140737488355328)
  (k : ∀ A' c' w', MRow B e 1 w' C A' c' (rows ++ bRows s) → Ext B w C w' C → (∀ k cs t', St w C k cs t' → t' ≠ e → St w' C k cs t') → (∀ B2 e2 sz2 A3 n3 c3, Own B2 e2 sz2 w C A3 n3 c3 → e2 ≠ e → Own B2 e2 sz2 w' C A3 n3 c3) →
   FWl D P N ops Q l (upd T d (.slice A' (rows ++ bRows s).length c')) w') : FWl D P N ops Q (o :: l) T w := by
 obtain ⟨dst, op, ty, pos, af, gd⟩ := o; cases ho
 obtain ⟨A', c', w', k1, k2, k3, k4, k5, _⟩ := r_appendStr (P := P) (ρ := ev T) (d := dst) (ty := ty) (pos := pos) (af := af) (gd := gd) ht hu hi hz hsz hby hx hy h hH hB hlen
 exact xAm d hd hw _ _ k1 (k A' c' w' k2 k3 k4 k5)
end
section
variable {P : Program} {ρ : Operand → Value} {d : Option Tmp} {ty : TypeId} {pos : String} {af : Array Edge} {gd : Option (Nat × Bool)} {w : World} {C : Gh} {t t' e : TypeId} {x : Operand}
theorem rowR_bytes (C : Gh) (l : List UInt8) : RowR (kInt .u8) C (bt l) (Lib.byteCells l) := by
 induction l with
 | nil => exact .nil
 | cons b l ih => exact .cons (cs := [.int .u8 (b.toNat : Int)]) rfl ih
theorem new_strBytes {l : List UInt8} (hs : P.underlying t = some .string) (hd : P.underlying t' = some (.slice e)) (he : P.underlying e = some (.int .u8)) (hx : ρ x = .string ⟨l.toArray⟩) (hl : l.length ≤ 140737488355328) (hH : Has w C) :
  ∃ A c w' C', (execOp ρ ⟨d, .convert t t' x, ty, pos, af, gd⟩).run P w = .ok (.value (.slice A l.length c)) w' ∧ Sl (kInt .u8) C' A c (bt l) ∧ Ext w.heap.size w C w' C' := by
 have hrun := run_bytes_of_string (P := P) w t t' e ⟨l.toArray⟩ hs hd he
 have hsz : (⟨l.toArray⟩ : ByteArray).size = l.length := by simp [ByteArray.size]
 rw [hsz] at hrun
 have hge := grownCap_ge w l.length 0 e
 have hle : Gle C (commit C w.heap.size 0 (Lib.byteCells l)) := commit_le fun k _ _ => hH.none k (Nat.le_refl _)
 have hbl : (bt l).length = l.length := by simp [bt]
 refine ⟨_, _, w.drew.alloc (.cells (bytesRow ⟨l.toArray⟩ (grownCap w l.length 0 e)) e ((bytesRow ⟨l.toArray⟩ (grownCap w l.length 0 e)).size, (bytesRow ⟨l.toArray⟩ (grownCap w l.length 0 e)).size + 1)), commit C w.heap.size 0 (Lib.byteCells l), ?_, Sl.of_row (rowR_bytes _ l) (commit_seg _ _ _ _) (by rw [hbl]; exact hge) (by rw [hbl]; exact hl), ?_⟩
 ·simp only [execOp, hx, Sem.run_bind, hrun, Result.andThen_ok, Sem.run_pure]
 ·refine ⟨(Below.refl _ w).drew.alloc (Nat.le_refl _) _, commit_has (Ext.alloc (Ext.drew (Ext.refl (B := w.heap.size) hH)) (Nat.le_refl _) _).has fun i v hi => ?_, hle, fun b o hb => commit_ne _ _ _ (by omega) _⟩
  have hn := World.cell?_alloc_mark w.drew (bytesRow ⟨l.toArray⟩ (grownCap w l.length 0 e)) e ((bytesRow ⟨l.toArray⟩ (grownCap w l.length 0 e)).size, (bytesRow ⟨l.toArray⟩ (grownCap w l.length 0 e)).size + 1) i
  rw [Nat.zero_add]
  refine hn.trans ?_
  have hil : i < l.length := by have := (List.getElem?_eq_some_iff.1 hi).1; simpa [Lib.byteCells] using this
  rw [bytesRow, Array.getElem?_append_left (by simpa using hil)]
  simpa [Lib.byteCells] using hi
end
section
variable {D : List Deferred} {P : Program} {N : Nat} {Q : Exit → Fr → World → Prop} {T : Fr} {w : World} {ops : Array Oper} {o : Oper} {C : Gh} {t t' e d : Nat} {x : Operand}
theorem FWl.strBytes {l : List UInt8} {r : List Oper} (ho : o.op = .convert t t' x) (hd : o.dst = some d) (hw : wantedF ops T o = true) (hs : P.underlying t = some .string) (hd' : P.underlying t' = some (.slice e)) (he : P.underlying e = some (.int .u8)) (hx : ev T x = .string ⟨l.toArray⟩) (hl : l.length ≤ 140737488355328) (hH : Has w C)
  (h : ∀ A c w' C', Sl (kInt .u8) C' A c (bt l) → Ext w.heap.size w C w' C' → FWl D P N ops Q r (upd T d (.slice A l.length c)) w') : FWl D P N ops Q (o :: r) T w := by
 obtain ⟨dst, op, ty, pos, af, gd⟩ := o; cases ho
 obtain ⟨A, c, w', C', hrun, h1, h2⟩ := new_strBytes (P := P) (ρ := ev T) (d := dst) (ty := ty) (pos := pos) (af := af) (gd := gd) hs hd' he hx hl hH
 exact xAm d hd hw _ _ hrun (h A c w' C' h1 h2)
end
theorem r_sliceStrE {P : Program} {ρ : Operand → Value} {d : Option Tmp} {ty : TypeId} {pos : String} {af : Array Edge} {gd : Option (Nat × Bool)} {w : World} {t : TypeId} {s r : ByteArray} {l h : Int} {x xl xh : Operand} (hu : P.underlying t = some .string) (hx : ρ x = .string s) (hl : ρ xl = .int .i64 l) (hh : ρ xh = .int .i64 h) (h0 : 0 ≤ l) (h1 : l ≤ h) (h3 : h ≤ s.size) (he : s.extract l.toNat h.toNat = r) :
  (execOp ρ ⟨d, .slice t x (some xl) (some xh) none, ty, pos, af, gd⟩).run P w = .ok (.value (.string r)) w := by subst he; exact r_sliceStr hu hx hl hh h0 h1 h3
end Go.Proofs.YtlofomkhiefbmaaGreatDoor

namespace Go.Proofs.YtlofomkhiefbmaaGreatDoor
open Go.RowKit
structure Ob (w : World) (C : Gh) (g : Nat) (o : Obj) : Prop where
 blk : w.heap[g]? = some o
 nc : o.isCells = false
 un : ∀ k, C g k = none
section
variable {w w' : World} {C C' C1 : Gh} {g g' : Nat} {o o' : Obj}
theorem Ob.lt (h : Ob w C g o) : g < w.heap.size := blk_lt' h.blk
theorem Ob.ext {B : Nat} (h : Ob w C g o) (e : Ext B w C w' C') (hg : g < B) : Ob w' C' g o := ⟨(e.below.block g hg).trans h.blk, h.nc, fun k => (e.old g k hg).trans (h.un k)⟩
theorem Ob.call (h : Ob w C g o) (e : Ext w.heap.size w C w' C') : Ob w' C' g o := h.ext e h.lt
theorem Ob.other (h : Ob w C g o) (m : Mut g' w C w' C') (hne : g ≠ g') : Ob w' C' g o :=
 ⟨(m.grown.block g h.lt (by simp; exact hne)).trans h.blk, h.nc, fun k => (m.old g k h.lt hne).trans (h.un k)⟩
theorem Ob.app {A A' : Option Addr} {n c n' c' : Nat} (h : Ob w C g o) (m : App A n c w C A' n' c' w' C') (hn : Nb A n c g) : Ob w' C' g o :=
 ⟨((m.oth g h.lt hn).1).trans h.blk, h.nc, fun k => ((m.oth g h.lt hn).2 k).trans (h.un k)⟩
theorem Ob.ne_st {cs : List Value} {t : TypeId} (h : Ob w C g o) (s : St w C1 g' cs t) : g ≠ g' := fun e => by
 subst e
 have := h.blk
 rw [s.blk] at this
 cases this
 have := h.nc
 cases this
theorem Own.nbO {B e sz : Nat} {A : Option Addr} {n c : Nat} (h : Own B e sz w C A n c) (s : Ob w C1 g o) : Nb A n c g := fun hl a ha hb => by
 obtain ⟨g', o', cs, h1, _, h3, _⟩ := h.sp hl
 rw [h1] at ha
 cases ha
 simp only at hb
 subst hb
 have := s.blk
 rw [h3] at this
 cases this
 have := s.nc
 cases this
theorem Ob.turn (h : Ob w C g o) (hH : Has w C) (o' : Obj) (hc : o'.isCells = false) : Mut g w C (w.putObj g o') C ∧ Ob (w.putObj g o') C g o' := by
 refine ⟨⟨⟨rfl, rfl, rfl, by simp [World.putObj], fun k _ hk => World.putObj_heap_other (fun e => hk (by rw [e]))⟩, fun b k v e => ?_, Gle.refl _, fun _ _ _ _ => rfl⟩, ⟨World.putObj_heap_same h.lt, hc, h.un⟩⟩
 by_cases hb : b = g
 ·subst hb; rw [h.un k] at e; cases e
 ·rw [World.cell?_of_block (w := w) (World.putObj_heap_other hb)]; exact hH b k v e
theorem Ob.keep (h : Ob w C g o) (he : w'.heap[g]? = w.heap[g]?) : Ob w' C g o := ⟨he.trans h.blk, h.nc, h.un⟩
theorem Ob.new (hH : Has w C) (o : Obj) (hc : o.isCells = false) : Ob (w.alloc o) C w.heap.size o := ⟨heap_alloc_new w _, hc, fun k => hH.none k (Nat.le_refl _)⟩
end
def Yld (P : Program) (l : Nat) (args : Array Value) (w : World) (R : Value → World → Prop) : Prop :=
 ∃ fn tmps assign body, (Instr.yield l args).run P w = .ok (.round l fn tmps assign body) w ∧ RoundIn Fence.wide 0 P l fn tmps assign body w (fun e w' => ∃ v, e = .returned v ∧ R v w')
theorem Yld.mono {P : Program} {l : Nat} {args : Array Value} {w : World} {R R' : Value → World → Prop} (h : Yld P l args w R) (hr : ∀ v w', R v w' → R' v w') : Yld P l args w R' :=
 let ⟨a, b, c, d, h1, h2⟩ := h; ⟨a, b, c, d, h1, h2.mono fun e w' ⟨v, he, hv⟩ => ⟨v, he, hr _ _ hv⟩⟩
section
variable {D : List Deferred} {P : Program} {N : Nat} {Q : Exit → Fr → World → Prop} {T : Fr} {w : World} {ops : Array Oper} {o : Oper}
theorem FWl.yield2 {l : List Oper} {d k : Nat} {cl a0 a1 : Operand} {v0 v1 : Value} {ts : Array TypeId} (ho : o.op = .call { callee := .value cl, args := #[a0, a1], argTypes := ts }) (hd : o.dst = some d) (hw : wantedF ops T o = true) (hf : ev T cl = .func (.yield k) #[] #[]) (h0 : ev T a0 = v0) (h1 : ev T a1 = v1)
  (h : Yld P k #[v0, v1] w fun v w' => FWl D P N ops Q l (upd T d v) w') : FWl D P N ops Q (o :: l) T w := fun hok F hF a ha => by
 obtain ⟨hok1, hok2⟩ := regOk.cons hok
 obtain ⟨fn, tmps, assign, body, hy, hR⟩ := h
 obtain ⟨dst, op, ty, pos, af, gd⟩ := o; cases ho
 have hrun : (execOp (ev T) ⟨dst, .call { callee := .value cl, args := #[a0, a1], argTypes := ts }, ty, pos, af, gd⟩).run P w = .ok (.round k fn tmps assign body) w := by
  simp [execOp, resolve, hf, h0, h1, Deferred.ofValue, invoke, hy]
 simp only [wpListIn, wanted_eq ha, hw, if_true]
 unfold Oper.wpIn
 refine ⟨fun f _ => hF.fn f, ?_⟩
 rw [ha.eval, semAt_run hrun (fun _ _ => by simp) (fun _ _ => by simp), Oper.uponIn_round]
 refine ⟨hF.depth, ?_⟩
 have hR' : RoundIn F 0 P k fn tmps assign body w (fun e w' => ∃ v, e = .returned v ∧ FWl D P N ops Q l (upd T d v) w') := by
  rcases hF with rfl | ⟨l', rfl⟩ <;> exact hR
 refine hR'.mono fun e w' ⟨v, he, hv⟩ => ?_
 subst he
 simp only at hd
 rw [hd]
 exact hv hok2 F hF _ (ha.put (opOk.lt hok1 hd) _)
end
def Iter {α : Type} (P : Program) (gf : FuncId) (lb : Array Value) (encs : α → Array Value) (xs : List α) (C : Gh) : Prop :=
 ∀ (B l : Nat) (J : List α → World → Gh → Prop) (Jx : World → Gh → Prop) (w1 : World) (C1 : Gh), Has w1 C1 → Gle C C1 → B ≤ w1.heap.size →
  (∀ ps w C w' C', J ps w C → Ext w.heap.size w C w' C' → J ps w' C') → (∀ w C w' C', Jx w C → Ext w.heap.size w C w' C' → Jx w' C') →
  (∀ ps x w C, (ps ++ [x]) <+: xs → Has w C → Gle C1 C → B ≤ w.heap.size → J ps w C → Yld P l (encs x) w fun v w' => ∃ C', Ext B w C w' C' ∧ ((v = .bool true ∧ J (ps ++ [x]) w' C') ∨ (v = .bool false ∧ Jx w' C'))) →
  J [] w1 C1 → Ret P gf (#[.func (.yield l) #[] #[]] ++ lb) w1 fun _ w' => ∃ C', Ext B w1 C1 w' C' ∧ (J xs w' C' ∨ Jx w' C')
theorem Iter.mono {α : Type} {P : Program} {gf : FuncId} {lb : Array Value} {encs : α → Array Value} {xs : List α} {C C' : Gh} (h : Iter P gf lb encs xs C) (hle : Gle C C') : Iter P gf lb encs xs C' :=
 fun B l J Jx w1 C1 h1 h2 => h B l J Jx w1 C1 h1 (hle.trans h2)
def FM (P : Program) (N : Nat) (fn : Func) (c : Code) (R : Value → World → Prop) (T : Fr) (w : World) : Prop :=
 ∀ a, Rel N [] T a → c.wpIn Fence.wide 0 P (bodyPostM Fence.wide 0 P fn (fun e w' => ∃ v, e = .returned v ∧ R v w')) a w
def mark (d : Nat) : Deferred := { target := .collected d, args := #[] }
def bodyFM (P : Program) (fn : Func) (d : Nat) (R : Value → World → Prop) : Exit → Fr → World → Prop
 | .normal, T, w | .ret, T, w => w.heap[d]? = some (.deferred (some [])) ∧ bodyF P fn R .ret T (w.putObj d (.deferred none))
 | _, _, _ => False
section
variable {P : Program} {N : Nat} {fn : Func} {R : Value → World → Prop} {T : Fr} {w : World}
theorem bodyM_of {e : Exit} {a : Act} {w : World} (h : wrap N [] (bodyF P fn R) e a w) : bodyPostM Fence.wide 0 P fn (fun e w' => ∃ v, e = .returned v ∧ R v w') e a w := by
 cases e <;> simp only [wrap, bodyF, bodyPostM] at h ⊢
 case normal =>
  obtain ⟨T', h1, h2⟩ := h
  obtain ⟨v, hv, hR⟩ := h2 a.tmps h1.get
  rw [h1.defers]
  exact ⟨v, hv, v, rfl, hR⟩
 case ret =>
  obtain ⟨T', h1, h2⟩ := h
  obtain ⟨v, hv, hR⟩ := h2 a.tmps h1.get
  rw [h1.defers]
  exact ⟨v, hv, v, rfl, hR⟩
 all_goals first | exact h.elim | (obtain ⟨_, _, h⟩ := h; exact h.elim)
theorem bodyM_of_mark {d : Nat} {e : Exit} {a : Act} {w : World} (h : wrap N [mark d] (bodyFM P fn d R) e a w) : bodyPostM Fence.wide 0 P fn (fun e w' => ∃ v, e = .returned v ∧ R v w') e a w := by
 cases e <;> simp only [wrap, bodyFM, bodyPostM, bodyF] at h ⊢
 case normal =>
  obtain ⟨T', h1, h3, h2⟩ := h
  obtain ⟨v, hv, hR⟩ := h2 a.tmps h1.get
  rw [h1.defers]
  exact ⟨by simp, .inl ⟨d, _, rfl, run_takeDeferred h3, v, hv, v, rfl, hR⟩⟩
 case ret =>
  obtain ⟨T', h1, h3, h2⟩ := h
  obtain ⟨v, hv, hR⟩ := h2 a.tmps h1.get
  rw [h1.defers]
  exact ⟨by simp, .inl ⟨d, _, rfl, run_takeDeferred h3, v, hv, v, rfl, hR⟩⟩
 all_goals first | exact h.elim | (obtain ⟨_, _, h⟩ := h; exact h.elim)
theorem Ret.ofM {f : FuncId} {c : Code} {args : Array Value} (hf : P.funcs[f]? = some fn) (hb : fn.body = some c) (hn : fn.ntmps = N) (hs' : Nat.ble args.size N = true)
  (h : FM P N fn c R (args0 args) w) : Ret P f args w R := by
 have hs : args.size ≤ N := Nat.le_of_ble_eq_true hs'
 exact (callsIn_wide (n := 0)).1 (callsIn_of_wp_marks hf hb trivial (h _ (rel_args hn hs)))
theorem FM.of {c : Code} (h : FW [] P N c (bodyF P fn R) T w) : FM P N fn c R T w := fun a ha => wpIn_mono (h _ wide_loose _ ha) fun e a w hw => bodyM_of hw
theorem FM.seq {x y : Code} (h : FW [] P N x (thenF (FM P N fn y R) (bodyF P fn R)) T w) : FM P N fn (x.seq y) R T w := fun a ha =>
 wpIn_seq (wpIn_mono (h _ wide_loose _ ha) fun e a' w' hw => by
  cases e with
  | normal => exact let ⟨T', h1, h2⟩ := hw; h2 a' h1
  | ret => exact bodyM_of (N := N) (e := .ret) hw
  | exit i => obtain ⟨_, _, h⟩ := hw; exact h.elim
  | goto i => obtain ⟨_, _, h⟩ := hw; exact h.elim
  | panic ch => exact hw.elim
  | outgrown => exact hw.elim)
theorem FM.seq_k {x y : Code} (h : ∀ K : Fr → World → Prop, (∀ T w, FM P N fn y R T w → K T w) → FW [] P N x (thenF K (bodyF P fn R)) T w) : FM P N fn (x.seq y) R T w :=
 FM.seq (h _ fun _ _ h => h)
def FM2 (P : Program) (N : Nat) (fn : Func) (y z : Code) (R : Value → World → Prop) (T : Fr) (w : World) : Prop :=
 ∀ a, Rel N [] T a → y.wpIn Fence.wide 0 P (Exit.then (z.wpIn Fence.wide 0 P (bodyPostM Fence.wide 0 P fn (fun e w' => ∃ v, e = .returned v ∧ R v w'))) (bodyPostM Fence.wide 0 P fn (fun e w' => ∃ v, e = .returned v ∧ R v w'))) a w
theorem FM.of2 {y z : Code} (h : FM2 P N fn y z R T w) : FM P N fn (y.seq z) R T w := fun a ha => wpIn_seq (h a ha)
theorem FM.seq2_k {x y z : Code} (h : ∀ K : Fr → World → Prop, (∀ T w, FM2 P N fn y z R T w → K T w) → FW [] P N x (thenF K (bodyF P fn R)) T w) : FM P N fn ((x.seq y).seq z) R T w := fun a ha =>
 wpIn_seq (wpIn_seq (wpIn_mono (h _ (fun _ _ h => h) _ wide_loose _ ha) fun e a' w' hw => by
  cases e with
  | normal => exact let ⟨T', h1, h2⟩ := hw; h2 a' h1
  | ret => exact bodyM_of (N := N) (e := .ret) hw
  | exit i => obtain ⟨_, _, h⟩ := hw; exact h.elim
  | goto i => obtain ⟨_, _, h⟩ := hw; exact h.elim
  | panic ch => exact hw.elim
  | outgrown => exact hw.elim))
def roundF (R : World → Prop) : Exit → Fr → World → Prop
 | .normal, _, w => R w
 | _, _, _ => False
theorem roundF_normal {R : World → Prop} (h : R w) : roundF R .normal T w := h
def updL (T : Fr) : List (Tmp × Value) → Fr
 | [] => T
 | (d, v) :: l => updL (upd T d v) l
theorem rel_zip {D : List Deferred} : ∀ (l : List (Tmp × Value)) (T : Fr) (tmps : Array Value), (∀ p ∈ l, p.1 < N) → Rel N D T ⟨tmps, D⟩ → Rel N D (updL T l) ⟨l.foldl (fun t (p, v) => t.setIfInBounds p v) tmps, D⟩
 | [], T, tmps, _, h => h
 | (d, v) :: l, T, tmps, hl, h => rel_zip l (upd T d v) (tmps.setIfInBounds d v) (fun p hp => hl p (by simp [hp])) (h.put (hl (d, v) (by simp)) v)
def busy (r : Loop) : Loop := { r with state := .busy }
theorem FM.range {α : Type} {id : Nat} {g : Operand} {ps : Array Tmp} {assign body rest : Code} {gf : FuncId} {lb : Array Value} {encs : α → Array Value} {xs : List α} {C : Gh} {B : Nat}
  (hg : ev T g = .func (.func gf) #[] lb) (hcall : ∀ (args : Array Value) (w : World), (callFunc gf args).run P w = .ok (.enter gf args) w) (hit : Iter P gf lb encs xs C) (hH : Has w C) (hB : B ≤ w.heap.size)
  (hps : ∀ x, (encs x).size = ps.size) (hpN : (ps.toList.all fun p => Nat.blt p N) = true) (Inv : List α → World → Gh → Prop) (hInv : ∀ qs w C w' C', Inv qs w C → Ext w.heap.size w C w' C' → Inv qs w' C')
  (hInvO : ∀ qs w C w' g o, B ≤ g → Inv qs w C → Ob w C g o → Mut g w C w' C → Inv qs w' C) (h0 : Inv [] w C)
  (round : ∀ (l d : Nat) qs x w1 C1 (r : Loop) (o2 : Obj), (qs ++ [x]) <+: xs → Has w1 C1 → Gle C C1 → w.heap.size ≤ w1.heap.size → w.heap.size ≤ l → w.heap.size ≤ d → l ≠ d → Ob w1 C1 l (.loop r) → Ob w1 C1 d o2 → Inv qs w1 C1 →
   FW [] P N assign (thenF (fun T2 w2 => w2.heap[l]? = some (.loop r) ∧ FW [] P N body (roundF fun w4 => ∃ C4, Has w4 C4 ∧ Ob w4 C4 l (.loop (busy r)) ∧ Ob w4 C4 d o2 ∧ Ext B w1 C1 w4 C4 ∧ Inv (qs ++ [x]) w4 C4) T2 (w2.putObj l (.loop (busy r)))) (fun _ _ _ => False)) (updL T (ps.toList.zip (encs x).toList)) w1)
  (done : ∀ (d : Nat) w1 C1, w.heap.size ≤ d → Has w1 C1 → Ext B w C w1 C1 → Inv xs w1 C1 → Ob w1 C1 d (.deferred (some [])) → FW [mark d] P N rest (bodyFM P fn d R) T w1) :
  FM2 P N fn (Code.block id (.rangeFunc g ps assign body)) rest R T w := by
 intro a ha
 refine wpIn_block (wpIn_rangeFunc fun fn0 _ => ?_)
 obtain ⟨rec, hrec⟩ : ∃ rec : Loop, rec = { state := .ready, pending := none, fn := fn0, tmps := a.tmps, params := ps, assign, body, defers := w.heap.size } := ⟨_, rfl⟩
 obtain ⟨W0, hW0⟩ : ∃ W0, w.alloc (.deferred (some [])) = W0 := ⟨_, rfl⟩
 obtain ⟨W1, hW1⟩ : ∃ W1, W0.alloc (.loop rec) = W1 := ⟨_, rfl⟩
 have e0 : Ext w.heap.size w C W0 C := by rw [← hW0]; exact alloc_ext hH _
 have e1 : Ext W0.heap.size W0 C W1 C := by rw [← hW1]; exact alloc_ext e0.has _
 have hs0 : W0.heap.size = w.heap.size + 1 := by rw [← hW0]; simp
 have od0 : Ob W0 C w.heap.size (.deferred (some [])) := by rw [← hW0]; exact Ob.new hH _ rfl
 have od : Ob W1 C w.heap.size (.deferred (some [])) := od0.call e1
 have ol : Ob W1 C (w.heap.size + 1) (.loop rec) := by rw [← hW1, ← hs0]; exact Ob.new e0.has _ rfl
 have eB : Ext B w C W1 C := (e0.mono hB).trans (e1.mono (by omega))
 have hs1 : w.heap.size ≤ W1.heap.size := eB.size
 refine ⟨w.heap.size + 1, [mark w.heap.size], W1, { target := .fn (.func gf) lb, args := #[.func (.yield (w.heap.size + 1)) #[] #[]] }, W1, gf, #[.func (.yield (w.heap.size + 1)) #[] #[]] ++ lb, W1, ?_, ?_, fun _ _ => trivial, ?_, (fun h => by cases h), ?_⟩
 ·rw [← hW1, ← hW0, hrec]; exact run_enterLoop_outer _ _ _ _ _
 ·have hg' : a.eval g = .func (.func gf) #[] lb := by rw [ha.eval]; exact hg
  have hc : a.eval (.const (.func (.yield (w.heap.size + 1)) #[] #[])) = .func (.yield (w.heap.size + 1)) #[] #[] := rfl
  simp [resolve, hg', hc, Deferred.ofValue]
 ·simp [invoke, hcall]
 refine CallsIn.mono ((callsIn_wide (n := 0)).2 (hit B (w.heap.size + 1) (fun qs w' C' => Inv qs w' C' ∧ Ob w' C' (w.heap.size + 1) (.loop rec) ∧ Ob w' C' w.heap.size (.deferred (some []))) (fun _ _ => False) W1 C e1.has (Gle.refl C) (Nat.le_trans hB hs1) ?_ (fun _ _ _ _ h _ => h) ?_ ?_)) ?_
 ·rintro qs w2 C2 w3 C3 ⟨h1, h2, h3⟩ e
  exact ⟨hInv _ _ _ _ _ h1 e, h2.call e, h3.call e⟩
 ·rintro qs x w2 C2 hpre hH2 hle hB2 ⟨h1, h2, h3⟩
  refine ⟨rec.fn, _, rec.assign, rec.body, run_yield h2.blk (by rw [hrec]; exact hps x), roundIn_of_wpIn trivial ?_⟩
  have hrel : Rel N [] (updL T (ps.toList.zip (encs x).toList)) { tmps := (ps.zip (encs x)).foldl (fun t (p, v) => t.setIfInBounds p v) a.tmps, defers := [] } := by
   rw [← Array.foldl_toList, Array.toList_zip]
   refine rel_zip _ _ a.tmps (fun p hp => ?_) ⟨ha.size, rfl, ha.get⟩
   have hm := (List.of_mem_zip hp).1
   exact lt_of_blt (List.all_eq_true.1 hpN _ hm)
  have hr := round (w.heap.size + 1) w.heap.size qs x w2 C2 rec _ hpre hH2 hle (Nat.le_of_lt (Nat.lt_of_lt_of_le (Nat.lt_succ_self _) (Nat.le_of_lt h2.lt))) (by omega) (Nat.le_refl _) (by omega) h2 h3 h1 (Fence.wide.inRound (w.heap.size + 1)) (.inr ⟨_, rfl⟩) _ hrel
  rw [hrec] at hr ⊢
  refine wpIn_mono hr fun e a2 w3 hq => ?_
  cases e with
  | normal =>
   obtain ⟨T2, hr2, hblk, hbody⟩ := hq
   refine ⟨_, run_beginRound hblk rfl, wpIn_mono (hbody _ (.inr ⟨_, rfl⟩) a2 hr2) fun e a4 w4 hq4 => ?_⟩
   cases e with
   | normal =>
    obtain ⟨T4, hr4, C4, hH4, hl4, hd4, hE4, hI4⟩ := hq4
    have hturn := hl4.turn hH4 (.loop { state := .ready, pending := none, fn := fn0, tmps := a.tmps, params := ps, assign, body, defers := w.heap.size }) rfl
    exact ⟨_, _, run_endRound none hl4.blk, _, rfl, C4, hE4.trans (hturn.1.ext (Nat.le_trans hB2 hE4.size) (by omega)), .inl ⟨rfl, hInvO _ _ _ _ _ _ (by omega) hI4 hl4 hturn.1, hturn.2, hd4.other hturn.1 (by omega)⟩⟩
   | exit i => obtain ⟨_, _, h⟩ := hq4; exact h.elim
   | goto i => obtain ⟨_, _, h⟩ := hq4; exact h.elim
   | ret => obtain ⟨_, _, h⟩ := hq4; exact h.elim
   | panic ch => exact hq4.elim
   | outgrown => exact hq4.elim
  | exit i => obtain ⟨_, _, h⟩ := hq; exact h.elim
  | goto i => obtain ⟨_, _, h⟩ := hq; exact h.elim
  | ret => obtain ⟨_, _, h⟩ := hq; exact h.elim
  | panic ch => exact hq.elim
  | outgrown => exact hq.elim
 ·exact ⟨hInv _ _ _ _ _ (hInv _ _ _ _ _ h0 e0) e1, ol, od⟩
 ·rintro e w3 ⟨v, rfl, C3, hE3, ⟨hI3, hl3, hd3⟩ | h⟩
  ·have hturn := hl3.turn hE3.has (.loop { rec with state := .exhausted }) rfl
   refine ⟨none, w3.putObj (w.heap.size + 1) (.loop { rec with state := .exhausted }), ?_, ?_⟩
   ·have := run_endLoop (P := P) hl3.blk (by rw [hrec]; simp)
    rw [this, hrec]
   ·have hE : Ext B w C (w3.putObj (w.heap.size + 1) (.loop { rec with state := .exhausted })) C3 := (eB.trans hE3).trans (hturn.1.ext (Nat.le_trans hB (Nat.le_trans hs1 hE3.size)) (by omega))
    have hd := done w.heap.size _ C3 (Nat.le_refl _) hturn.1.has hE (hInvO _ _ _ _ _ _ (by omega) hI3 hl3 hturn.1) (hd3.other hturn.1 (by omega))
    exact wpIn_mono (hd _ wide_loose { a with defers := [mark w.heap.size] ++ a.defers } ⟨ha.size, by simp [ha.defers], ha.get⟩) fun e a w hw => bodyM_of_mark hw
  ·exact h.elim
end
end Go.Proofs.YtlofomkhiefbmaaGreatDoor

namespace Go.Proofs.YtlofomkhiefbmaaGreatDoor
structure Label where
 level : Int
 cats : BitVec 64
deriving DecidableEq
structure Item where
 id : Int
 label : Label
 anchor : Bool
 line : Line
deriving DecidableEq
def belowL (a b : Label) : Prop := a.level ≤ b.level ∧ (a.cats &&& ~~~b.cats) = 0#64
instance (a b : Label) : Decidable (belowL a b) := inferInstanceAs (Decidable (_ ∧ _))
theorem below_bits {a b : BitVec 64} : (a &&& ~~~b) = 0#64 ↔ ∀ c : Nat, c < 64 → a.getLsbD c = true → b.getLsbD c = true := by
 constructor
 ·intro h c hc ha
  have := congrArg (fun x => x.getLsbD c) h
  simp [ha, hc] at this
  exact this
 ·intro h
  apply BitVec.eq_of_getLsbD_eq
  intro i hi
  have := h i hi
  cases ha : a.getLsbD i with
  | false => simp [ha]
  | true => simp [ha, this ha, hi]
def meetL (a b : Label) : Label := ⟨min a.level b.level, a.cats &&& b.cats⟩
theorem belowL_meet {x a b : Label} : belowL x (meetL a b) ↔ belowL x a ∧ belowL x b := by
 unfold belowL meetL
 simp only [below_bits, BitVec.getLsbD_and, Bool.and_eq_true]
 constructor
 ·rintro ⟨h1, h2⟩
  exact ⟨⟨by omega, fun c hc ha => (h2 c hc ha).1⟩, ⟨by omega, fun c hc ha => (h2 c hc ha).2⟩⟩
 ·rintro ⟨⟨h1, h2⟩, h3, h4⟩
  exact ⟨by omega, fun c hc ha => ⟨h2 c hc ha, h4 c hc ha⟩⟩
def rightL (a : Label) : Prop := 0 ≤ a.level ∧ a.level ≤ 15
instance (a : Label) : Decidable (rightL a) := inferInstanceAs (Decidable (_ ∧ _))
def catsTo (n : BitVec 64) (k : Nat) : List Nat := (List.range k).filter fun c => n.getLsbD c
def catsI (n : BitVec 64) (k : Nat) : List Int := (catsTo n k).map Int.ofNat
theorem catsTo_succ (n : BitVec 64) (k : Nat) : catsTo n (k + 1) = catsTo n k ++ (if n.getLsbD k then [k] else []) := by
 simp only [catsTo, List.range_succ, List.filter_append, List.filter_cons, List.filter_nil]
theorem catsI_succ (n : BitVec 64) (k : Nat) : catsI n (k + 1) = catsI n k ++ (if n.getLsbD k then [(k : Int)] else []) := by
 simp only [catsI, catsTo_succ, List.map_append]
 congr 1
 split <;> rfl
theorem catsTo_gap (n : BitVec 64) (k m : Nat) (h : ∀ c, k ≤ c → c < m → n.getLsbD c = false) (hkm : k ≤ m) : catsTo n m = catsTo n k := by
 obtain ⟨d, rfl⟩ : ∃ d, m = k + d := ⟨m - k, by omega⟩
 induction d with
 | zero => rfl
 | succ d ih =>
  rw [← Nat.add_assoc, catsTo_succ, ih (fun c h1 h2 => h c h1 (by omega)) (by omega), h (k + d) (by omega) (by omega)]
  simp
theorem catsTo_len (n : BitVec 64) (k : Nat) : (catsTo n k).length ≤ k := by
 unfold catsTo; have := List.length_filter_le (fun c => n.getLsbD c) (List.range k); simpa using this
theorem catsI_len (n : BitVec 64) (k : Nat) : (catsI n k).length ≤ k := by rw [catsI, List.length_map]; exact catsTo_len n k
theorem catsI_mem {n : BitVec 64} {k : Nat} {x : Int} (h : x ∈ catsI n k) : 0 ≤ x ∧ x < k := by
 simp only [catsI, catsTo, List.mem_map, List.mem_filter, List.mem_range] at h
 obtain ⟨c, ⟨h1, _⟩, rfl⟩ := h
 have : Int.ofNat c = (c : Int) := rfl
 omega
def seenF (l : List Item) (o : Label) (i : Nat) : List (Nat × Item) :=
 match l with
 | [] => []
 | x :: l => if belowL x.label o then (i, x) :: seenF l o (i + 1) else seenF l o (i + 1)
def seenP (l : List Item) (o : Label) : List (Nat × Item) := seenF l o 0
def cutL (l : List Item) (o : Label) : List Item := l.filter fun x => decide (belowL x.label o)
theorem seenF_app (o : Label) : ∀ (l m : List Item) (i : Nat), seenF (l ++ m) o i = seenF l o i ++ seenF m o (i + l.length)
 | [], m, i => by simp [seenF]
 | x :: l, m, i => by
  simp only [List.cons_append, seenF, seenF_app o l m (i + 1), List.length_cons]
  have : i + 1 + l.length = i + (l.length + 1) := by omega
  rw [this]
  split <;> simp
theorem seenF_cut (o : Label) : ∀ (l : List Item) (i : Nat), (seenF l o i).map (·.2) = cutL l o
 | [], i => rfl
 | x :: l, i => by
  simp only [seenF, cutL, List.filter_cons]
  by_cases h : belowL x.label o
  ·simp [h, seenF_cut o l (i + 1), cutL]
  ·simp [h, seenF_cut o l (i + 1), cutL]
theorem seenP_take {l : List Item} {o : Label} {k : Nat} {x : Item} (hx : l[k]? = some x) : seenP (l.take (k + 1)) o = seenP (l.take k) o ++ (if belowL x.label o then [(k, x)] else []) := by
 unfold seenP
 have hk : k < l.length := (List.getElem?_eq_some_iff.1 hx).1
 rw [xAz hx, seenF_app]
 congr 1
 have : (l.take k).length = k := by simp; omega
 simp [seenF, this]
theorem seenP_prefix {l : List Item} {o : Label} (k : Nat) : seenP (l.take k) o <+: seenP l o := by
 refine ⟨seenF (l.drop k) o (0 + (l.take k).length), ?_⟩
 unfold seenP
 rw [← seenF_app, List.take_append_drop]
theorem seenF_len (o : Label) : ∀ (l : List Item) (i : Nat), (seenF l o i).length ≤ l.length
 | [], i => by simp [seenF]
 | x :: l, i => by have := seenF_len o l (i + 1); simp only [seenF]; split <;> simp <;> omega
theorem cutL_len (l : List Item) (o : Label) : (cutL l o).length ≤ l.length := List.length_filter_le _ _
def hasL (a : Label) (c : Int) : Prop := 0 ≤ c ∧ c ≤ 63 ∧ a.cats.getLsbD c.toNat = true
instance (a : Label) (c : Int) : Decidable (hasL a c) := inferInstanceAs (Decidable (_ ∧ _ ∧ _))
def fitsL (levels cats : Int) (a : Label) : Prop := 0 ≤ a.level ∧ a.level < levels ∧ 0 ≤ cats ∧ ∀ c : Nat, c < 64 → a.cats.getLsbD c = true → (c : Int) < cats
instance (l c : Int) (a : Label) : Decidable (fitsL l c a) := inferInstanceAs (Decidable (_ ∧ _ ∧ _ ∧ _))
def nlS (s : ByteArray) : Prop := (10 : UInt8) ∈ s.data.toList
instance (s : ByteArray) : Decidable (nlS s) := inferInstanceAs (Decidable (_ ∈ _))
structure okX (floor : Label) (x : Item) : Prop where
 size : x.line.text.size ≤ 200
 right : rightL x.label
 below : belowL floor x.label
 nl : ¬ nlS x.line.text
 bare : ¬ (x.line.bare = true ∧ x.line.text.size = 0)
 anchor : x.anchor = true → x.line.text.size = 0 ∧ x.line.bare = false
def okI (floor : Label) (l : List Item) : Prop := ∀ x ∈ l, okX floor x
theorem okI_take {floor : Label} {l : List Item} {k : Nat} {x : Item} (hx : l[k]? = some x) : okI floor (l.take (k + 1)) ↔ okI floor (l.take k) ∧ okX floor x := by
 unfold okI
 rw [xAz hx]
 constructor
 ·intro h; exact ⟨fun y hy => h y (by simp [hy]), h x (by simp)⟩
 ·rintro ⟨h1, h2⟩ y hy
  rcases List.mem_append.1 hy with hy | hy
  ·exact h1 y hy
  ·rw [List.mem_singleton.1 hy]; exact h2
theorem below_of {a b : Label} (h1 : a.level ≤ b.level) {k : Nat} (hk : 64 ≤ k) (h : ∀ c : Nat, c < k → hasL a c → hasL b c) : belowL a b := by
 refine ⟨h1, below_bits.2 fun c hc ha => ?_⟩
 have := h c (by omega) ⟨by omega, by omega, by simpa using ha⟩
 simpa using this.2.2
theorem not_below {a b : Label} {c : Nat} (h1 : hasL a c) (h2 : ¬ hasL b c) : ¬ belowL a b := fun h => by
 obtain ⟨k1, k2, k3⟩ := h1
 refine h2 ⟨k1, k2, ?_⟩
 exact below_bits.1 h.2 _ (by omega) k3
theorem shr_zero {a : BitVec 64} {n : Nat} : a >>> n = 0#64 ↔ ∀ c : Nat, c < 64 → a.getLsbD c = true → c < n := by
 constructor
 ·intro h c hc ha
  by_cases hn : c < n
  ·exact hn
  ·exfalso
   have := congrArg (fun x => x.getLsbD (c - n)) h
   have e : n + (c - n) = c := by omega
   simp [e, ha] at this
 ·intro h
  apply BitVec.eq_of_getLsbD_eq
  intro i hi
  simp only [BitVec.getLsbD_ushiftRight, BitVec.getLsbD_zero]
  cases ha : a.getLsbD (n + i) with
  | false => rfl
  | true =>
   have hlt : n + i < 64 := by
    by_cases hh : n + i < 64
    ·exact hh
    ·rw [BitVec.getLsbD_of_ge _ _ (by omega)] at ha; cases ha
   have := h _ hlt ha
   omega
theorem catsI_last {a : BitVec 64} {z : Int} (hz : (catsI a 64)[(catsI a 64).length - 1]? = some z) (cats : Int) : (∀ c : Nat, c < 64 → a.getLsbD c = true → (c : Int) < cats) ↔ z < cats := by
 have hs : (catsI a 64).Pairwise (· < ·) := by
  unfold catsI catsTo
  rw [List.pairwise_map]
  refine List.Pairwise.filter _ ?_
  exact List.pairwise_lt_range.imp fun {x y} h => by show (x : Int) < (y : Int); omega
 have hm : ∀ c : Nat, c < 64 → a.getLsbD c = true → (c : Int) ∈ catsI a 64 := fun c h1 h2 => by
  unfold catsI catsTo
  exact List.mem_map.2 ⟨c, List.mem_filter.2 ⟨List.mem_range.2 h1, h2⟩, rfl⟩
 constructor
 ·intro h
  have hzm := List.mem_of_getElem? hz
  unfold catsI catsTo at hzm
  obtain ⟨c, hc, rfl⟩ := List.mem_map.1 hzm
  obtain ⟨h1, h2⟩ := List.mem_filter.1 hc
  exact h c (List.mem_range.1 h1) h2
 ·intro h c h1 h2
  obtain ⟨i, hi⟩ := List.mem_iff_getElem?.1 (hm c h1 h2)
  have hil := (List.getElem?_eq_some_iff.1 hi).1
  by_cases e : i = (catsI a 64).length - 1
  ·subst e; rw [hi] at hz; cases hz; exact h
  ·have hlt : i < (catsI a 64).length - 1 := by omega
   have := List.pairwise_iff_getElem.1 hs i ((catsI a 64).length - 1) hil (by omega) hlt
   rw [(List.getElem?_eq_some_iff.1 hi).2, (List.getElem?_eq_some_iff.1 hz).2] at this
   omega
theorem catsI_nil {a : BitVec 64} (h : (catsI a 64).length = 0) (c : Nat) (hc : c < 64) : a.getLsbD c = false := by
 cases ha : a.getLsbD c with
 | false => rfl
 | true =>
  exfalso
  have : (c : Int) ∈ catsI a 64 := by
   unfold catsI catsTo
   exact List.mem_map.2 ⟨c, List.mem_filter.2 ⟨List.mem_range.2 hc, ha⟩, rfl⟩
  rw [List.eq_nil_of_length_eq_zero h] at this
  cases this
theorem nlS_no {s : ByteArray} (h : ∀ i : Nat, i < s.size → ∀ b, s[i]? = some b → b ≠ 10) : ¬ nlS s := fun hn => by
 obtain ⟨i, hi⟩ := List.mem_iff_getElem?.1 hn
 have hl := (List.getElem?_eq_some_iff.1 hi).1
 have hs : i < s.size := by simpa using hl
 refine h i hs 10 ?_ rfl
 have e : s[i]? = some s[i] := by simp [hs]
 rw [e]
 have h2 := (List.getElem?_eq_some_iff.1 hi).2
 rw [Array.getElem_toList] at h2
 exact congrArg some h2
theorem has_eq {a : Label} {c : Int} (h0 : 0 ≤ c) (h1 : c ≤ 63) : decide ((if (a.cats >>> c.toNat).getLsbD 0 = true then (1 : Int) else 0) = 1) = decide (hasL a c) := by
 have e : (a.cats >>> c.toNat).getLsbD 0 = a.cats.getLsbD c.toNat := by simp
 rw [e]
 refine decide_eq_decide.2 ?_
 unfold hasL
 by_cases hb : a.cats.getLsbD c.toNat = true
 ·rw [if_pos hb]; exact ⟨fun _ => ⟨h0, h1, hb⟩, fun _ => rfl⟩
 ·rw [if_neg hb]
  constructor
  ·intro h; exact absurd h (by decide)
  ·intro h; exact absurd h.2.2 hb
theorem cats_yes {a : Label} {k : Nat} {out : List Int} (h : out = catsI a.cats k) (hk : hasL a k) : out ++ [(k : Int)] = catsI a.cats (k + 1) := by
 rw [catsI_succ, if_pos (by simpa using hk.2.2), h]
theorem cats_no {a : Label} {k : Nat} {out : List Int} (h : out = catsI a.cats k) (hk64 : k < 64) (hk : ¬ hasL a k) : out = catsI a.cats (k + 1) := by
 rw [catsI_succ, if_neg (fun e => hk ⟨by omega, by omega, by simpa using e⟩), List.append_nil, h]
theorem b_ten {b : UInt8} : (b.toNat : Int) = 10 ↔ b = 10 := by
 constructor
 ·intro h; exact UInt8.toNat_inj.1 (by show b.toNat = 10; omega)
 ·rintro rfl; rfl
theorem nl_hit {s : ByteArray} {k : Nat} {b : UInt8} (hb : s[((k : Int)).toNat]? = some b) (h : (b.toNat : Int) = 10) : nlS s := by
 rw [b_ten] at h
 subst h
 simp only [Int.toNat_natCast] at hb
 unfold nlS
 by_cases hk : k < s.size
 ·have e : s[k]? = some s[k] := by simp [hk]
  rw [e] at hb
  have h2 : s.data[k] = 10 := Option.some.inj hb
  rw [← h2, Array.mem_toList_iff]
  exact Array.getElem_mem _
 ·rw [show s[k]? = none by simp; omega] at hb; cases hb
theorem nl_step {s : ByteArray} {k : Nat} {b : UInt8} (h : ∀ i : Nat, i < k → ∀ b, s[i]? = some b → b ≠ 10) (hb : s[((k : Int)).toNat]? = some b) (hn : ¬ ((b.toNat : Int) = 10)) : ∀ i : Nat, i < k + 1 → ∀ b, s[i]? = some b → b ≠ 10 := by
 intro i hi b' hb'
 rcases Nat.lt_succ_iff_lt_or_eq.1 hi with h1 | h1
 ·exact h i h1 b' hb'
 ·subst h1
  simp only [Int.toNat_natCast] at hb
  rw [hb] at hb'
  cases hb'
  intro e
  exact hn (b_ten.2 e)
theorem size0 {s : ByteArray} : s.size = 0 ↔ s = ⟨#[]⟩ := by
 constructor
 ·intro h
  obtain ⟨a⟩ := s
  have : a.size = 0 := h
  rw [Array.eq_empty_of_size_eq_zero this]
 ·rintro rfl; rfl
theorem lineZ {x : Line} : x = (⟨ByteArray.empty, false⟩ : Line) ↔ x.text.size = 0 ∧ x.bare = false := by
 obtain ⟨s, b⟩ := x
 constructor
 ·intro h; cases h; exact ⟨rfl, rfl⟩
 ·rintro ⟨h1, h2⟩
  have h1 := size0.1 h1
  simp only at h1 h2
  rw [h1, h2]; rfl
theorem chk_more {floor : Label} {l : List Item} {k : Nat} {x : Item} {e : Int} (hx : l[k]? = some x) (h : e = 0 ↔ okI floor (l.take k)) (hk : okX floor x) : e = 0 ↔ okI floor (l.take (k + 1)) := by
 rw [okI_take hx, h]; exact ⟨fun h => ⟨h, hk⟩, fun h => h.1⟩
theorem chk_bad {floor : Label} {l : List Item} {k : Nat} {x : Item} {e : Int} (hx : l[k]? = some x) (he : e ≠ 0) (hk : ¬ okX floor x) : e = 0 ↔ okI floor (l.take (k + 1)) := by
 rw [okI_take hx]; exact iff_of_false he fun h => hk h.2
theorem chk_five {floor : Label} {l : List Item} {k : Nat} {x : Item} {e : Int} (hx : l[k]? = some x) (h : e = 0 ↔ okI floor (l.take k)) (he : e ≠ 0) : e = 0 ↔ okI floor (l.take (k + 1)) := by
 rw [okI_take hx]; exact iff_of_false he fun h' => he (h.2 h'.1)
def lnX (hidden : ByteArray) (x : Item) : ByteArray := if x.anchor then hidden else x.line.text
def lastBare (l : List Item) : Bool := match l.getLast? with | none => false | some x => x.line.bare
def viewS (hidden : ByteArray) (l : List Item) : List Line := match l.getLast? with
 | none => []
 | some x => (l.dropLast.map fun y => (⟨lnX hidden y, false⟩ : Line)) ++ [⟨lnX hidden x, x.line.bare⟩]
theorem lastBare_snoc (l : List Item) (x : Item) : lastBare (l ++ [x]) = x.line.bare := by simp [lastBare]
theorem viewS_snoc (hidden : ByteArray) (l : List Item) (x : Item) : viewS hidden (l ++ [x]) = (l.map fun y => (⟨lnX hidden y, false⟩ : Line)) ++ [⟨lnX hidden x, x.line.bare⟩] := by simp [viewS]
theorem viewS_congr (hidden : ByteArray) {l m : List Item} (h : (l.map fun x => (x.anchor, x.line)) = m.map fun x => (x.anchor, x.line)) : viewS hidden l = viewS hidden m := by
 rcases List.eq_nil_or_concat l with rfl | ⟨l0, x, rfl⟩
 ·have : m = [] := by cases m with | nil => rfl | cons y m => simp at h
  subst this; rfl
 ·rcases List.eq_nil_or_concat m with rfl | ⟨m0, y, rfl⟩
  ·simp at h
  ·rw [List.concat_eq_append, List.concat_eq_append] at *
   simp only [List.map_append, List.map_cons, List.map_nil] at h
   obtain ⟨h1, h2⟩ := List.append_inj' h rfl
   have hx : x.anchor = y.anchor ∧ x.line = y.line := by simpa using h2
   rw [viewS_snoc, viewS_snoc]
   have e : ∀ (l m : List Item), (l.map fun x => (x.anchor, x.line)) = (m.map fun x => (x.anchor, x.line)) → (l.map fun y => (⟨lnX hidden y, false⟩ : Line)) = m.map fun y => (⟨lnX hidden y, false⟩ : Line) := by
    intro l m h
    have := congrArg (List.map fun p : Bool × Line => (⟨if p.1 then hidden else p.2.text, false⟩ : Line)) h
    simpa [List.map_map, Function.comp_def, lnX] using this
   rw [e _ _ h1]
   simp [lnX, hx.1, hx.2]
end Go.Proofs.YtlofomkhiefbmaaGreatDoor

namespace Go.Proofs.YtlofomkhiefbmaaGreatDoor
theorem ctz_split {x : BitVec 64} (h : x ≠ 0#64) : ∃ m, x.toNat = 2 ^ Lib.ctz 64 x.toNat * (2 * m + 1) ∧ Lib.ctz 64 x.toNat < 64 := by
 have h0 : x.toNat ≠ 0 := fun e => h (BitVec.eq_of_toNat_eq (by simpa using e))
 obtain ⟨m, hm, hk⟩ := Lib.ctzFrom_spec 64 x.toNat (by omega) x.isLt
 have e : Lib.ctz 64 x.toNat = Lib.ctzFrom 64 x.toNat := by simp [Lib.ctz, h0]
 exact ⟨m, by rw [e]; exact hm, by rw [e]; exact hk⟩
theorem testBit_odd (t m j : Nat) : (2 ^ t * (2 * m + 1)).testBit j = (decide (t ≤ j) && (2 * m + 1).testBit (j - t)) := by
 rw [Nat.testBit_two_pow_mul]
theorem ctz_low {x : BitVec 64} (h : x ≠ 0#64) {i : Nat} (hi : i < Lib.ctz 64 x.toNat) : x.getLsbD i = false := by
 obtain ⟨m, hm, _⟩ := ctz_split h
 rw [BitVec.getLsbD, hm, testBit_odd]
 simp; omega
theorem ctz_at {x : BitVec 64} (h : x ≠ 0#64) : x.getLsbD (Lib.ctz 64 x.toNat) = true := by
 obtain ⟨m, hm, _⟩ := ctz_split h
 generalize Lib.ctz 64 x.toNat = t at *
 rw [BitVec.getLsbD, hm, testBit_odd]
 simp [Nat.testBit_zero]
theorem dec_bits {x : BitVec 64} (h : x ≠ 0#64) (i : Nat) : (x &&& (x - 1#64)).getLsbD i = (x.getLsbD i && decide (i ≠ Lib.ctz 64 x.toNat)) := by
 obtain ⟨m, hm, ht⟩ := ctz_split h
 have hlow := fun i hi => ctz_low (i := i) h hi
 generalize Lib.ctz 64 x.toNat = t at *
 have h0 : x.toNat ≠ 0 := fun e => h (BitVec.eq_of_toNat_eq (by simpa using e))
 have hd : (x - 1#64).toNat = x.toNat - 1 := by
  have hlt := x.isLt
  rw [BitVec.toNat_sub]
  simp
  omega
 rw [BitVec.getLsbD_and]
 have hx : x.getLsbD i = x.toNat.testBit i := rfl
 have hy : (x - 1#64).getLsbD i = (x.toNat - 1).testBit i := by rw [BitVec.getLsbD, hd]
 rw [hy]
 rcases Nat.lt_trichotomy i t with hi | hi | hi
 ·rw [hlow i hi]; simp
 ·subst hi
  have : (x.toNat - 1).testBit i = false := by
   have e : x.toNat - 1 = 2 ^ i * (2 * m) + (2 ^ i - 1) := by
    have hp := Nat.two_pow_pos i
    rw [hm, Nat.mul_add, Nat.mul_one]; omega
   rw [e, Nat.testBit_two_pow_mul_add _ (by have hp := Nat.two_pow_pos i; omega)]
   simp
  rw [this]; simp
 ·have e : x.toNat - 1 = 2 ^ t * (2 * m) + (2 ^ t - 1) := by
   have hp := Nat.two_pow_pos t
   rw [hm, Nat.mul_add, Nat.mul_one]; omega
  have e2 : x.toNat = 2 ^ t * (2 * m + 1) + 0 := by omega
  have hb : (x.toNat - 1).testBit i = x.toNat.testBit i := by
   rw [e, e2, Nat.testBit_two_pow_mul_add _ (by have hp := Nat.two_pow_pos t; omega), Nat.testBit_two_pow_mul_add _ (Nat.two_pow_pos t)]
   have hnt : ¬ i < t := by omega
   simp only [hnt, if_false]
   obtain ⟨k, hk⟩ : ∃ k, i - t = k + 1 := ⟨i - t - 1, by omega⟩
   rw [hk, Nat.testBit_succ, Nat.testBit_succ]
   congr 1
   omega
  rw [hb, ← hx]
  have hne : i ≠ t := by omega
  simp [hne]
def gone (a rest : BitVec 64) (k : Nat) : Prop := ∀ i, rest.getLsbD i = (a.getLsbD i && decide (k ≤ i))
theorem gone_zero (a : BitVec 64) : gone a a 0 := fun i => by simp
theorem gone_end {a rest : BitVec 64} {k : Nat} (h : gone a rest k) (hk : k ≤ 64) (h0 : rest = 0#64) : catsI a 64 = catsI a k := by
 unfold catsI
 congr 1
 refine catsTo_gap a k 64 (fun c h1 h2 => ?_) hk
 have := h c
 rw [h0] at this
 simpa [h1] using this.symm
theorem gone_next {a rest : BitVec 64} {k : Nat} (h : gone a rest k) (hn : rest ≠ 0#64) :
  catsI a k ++ [(Lib.ctz 64 rest.toNat : Int)] = catsI a (Lib.ctz 64 rest.toNat + 1) ∧ gone a (rest &&& (rest - 1#64)) (Lib.ctz 64 rest.toNat + 1) ∧ Lib.ctz 64 rest.toNat + 1 ≤ 64 ∧ k ≤ Lib.ctz 64 rest.toNat := by
 obtain ⟨_, _, ht⟩ := ctz_split hn
 have h1 := ctz_at hn
 have h2 := fun i hi => ctz_low (i := i) hn hi
 have h3 := fun i => dec_bits hn i
 generalize Lib.ctz 64 rest.toNat = t at *
 have hkt : k ≤ t := by
  have := h t
  rw [h1] at this
  by_cases hh : k ≤ t
  ·exact hh
  ·simp [hh] at this
 have hat : a.getLsbD t = true := by
  have := h t
  rw [h1] at this
  cases ha : a.getLsbD t with
  | true => rfl
  | false => simp [ha] at this
 refine ⟨?_, fun i => ?_, by omega, hkt⟩
 ·rw [catsI_succ, if_pos hat]
  have : catsI a t = catsI a k := by
   unfold catsI
   congr 1
   refine catsTo_gap a k t (fun c hc1 hc2 => ?_) hkt
   have := h c
   rw [h2 c hc2] at this
   simpa [hc1] using this.symm
  rw [this]
 ·rw [h3, h i]
  rcases Nat.lt_trichotomy i t with hi | hi | hi
  ·have hlow := h2 i hi
   rw [h i] at hlow
   rw [hlow]
   have : ¬ (t + 1 ≤ i) := by omega
   simp [this]
  ·subst hi; simp
  ·have h5 : k ≤ i := by omega
   have h6 : i ≠ t := by omega
   have h7 : t + 1 ≤ i := by omega
   simp [h5, h6, h7]
def dig (n : Int) : UInt8 := UInt8.ofNat (48 + n).toNat
theorem dig_nat {n : Int} (h0 : 0 ≤ n) (h1 : n ≤ 9) : ((dig n).toNat : Int) = 48 + n := by
 obtain ⟨k, rfl⟩ : ∃ k : Nat, n = k := ⟨n.toNat, by omega⟩
 have : (48 + (k : Int)).toNat = 48 + k := by omega
 unfold dig
 rw [this, UInt8.toNat_ofNat']
 have : (48 + k) % 256 = 48 + k := Nat.mod_eq_of_lt (by omega)
 simp only [Nat.reducePow]
 omega
def decS (n : Int) : ByteArray := if n < 10 then ⟨#[dig (n % 10)]⟩ else ⟨#[dig (n / 10 % 10), dig (n % 10)]⟩
theorem decS_size (n : Int) : (decS n).size ≤ 2 := by
 unfold decS
 split
 ·show 1 ≤ 2; omega
 ·show 2 ≤ 2; omega
def lpStep (p : ByteArray × ByteArray) (c : Int) : ByteArray × ByteArray := (p.1 ++ (p.2 ++ decS c), ⟨#[44]⟩)
def labelS (a : Label) : ByteArray := ((catsI a.cats 64).foldl lpStep (decS a.level, ⟨#[58]⟩)).1
end Go.Proofs.YtlofomkhiefbmaaGreatDoor
