/- The frame of a walk as a function from temporaries to values; code, regions and operations over it. -/
import Derived.OrdersHeld
import Derived.Below
import Derived.Tactics
import Derived.WalkKit
import Derived.KernelRfl
set_option linter.unusedVariables false
namespace Go.Proofs.Ytlofomkhiefbmaa
open Go.RowKit

abbrev Fr := Nat → Value
def upd (T : Fr) (d : Nat) (v : Value) : Fr := fun t => bif Nat.beq t d then v else T t
def ev (T : Fr) : Operand → Value
  | .tmp t => T t
  | .const v => v
  | .global g => .pointer (some ⟨g, 0, none⟩)
  | .func f => .func (.func f) #[] #[]

structure Rel (N : Nat) (T : Fr) (a : Act) : Prop where
  size : a.tmps.size = N
  defers : a.defers = []
  get : ∀ t, a.tmps.getD t undef = T t

theorem Rel.eval {N : Nat} {T : Fr} {a : Act} (h : Rel N T a) : a.eval = ev T := by
  funext x
  cases x with
  | tmp t => exact h.get t
  | const v => rfl
  | global g => rfl
  | func f => rfl

theorem Rel.put {N : Nat} {T : Fr} {a : Act} (h : Rel N T a) {d : Nat} (hd : d < N) (v : Value) : Rel N (upd T d v) (a.put (some d) v) := by
  refine ⟨by simp [Act.put, h.size], by simp [Act.put, h.defers], fun t => ?_⟩
  have hs := h.size
  have hg := h.get t
  simp only [Act.put, upd]
  by_cases e : t = d
  · subst e
    have : Nat.beq t t = true := Nat.beq_refl t
    simp [hs, hd]
  · have : Nat.beq t d = false := by
      cases hb : Nat.beq t d with
      | false => rfl
      | true => exact absurd (Nat.eq_of_beq_eq_true hb) e
    rw [this, cond_false, ← hg]
    simp only [Array.getD_eq_getD_getElem?]
    rw [Array.getElem?_setIfInBounds_ne (fun h => e h.symm)]

/-- What a walk over the frame asks behind a piece of code: it doesn't panic. -/
def wrap (N : Nat) (Q : Exit → Fr → World → Prop) : Exit → Act → World → Prop
  | .panic _, _, _ => False
  | .outgrown, _, _ => False
  | e, a, w => ∃ T, Rel N T a ∧ Q e T w

def FW (P : Program) (N : Nat) (c : Code) (Q : Exit → Fr → World → Prop) (T : Fr) (w : World) : Prop :=
  ∀ a, Rel N T a → c.wp P (wrap N Q) a w

def thenF (K : Fr → World → Prop) (Q : Exit → Fr → World → Prop) : Exit → Fr → World → Prop
  | .normal, T, w => K T w
  | e, T, w => Q e T w
def inBlockF (id : Nat) (Q : Exit → Fr → World → Prop) : Exit → Fr → World → Prop
  | .exit id', T, w => bif Nat.beq id' id then Q .normal T w else Q (.exit id') T w
  | e, T, w => Q e T w

section
variable {P : Program} {N : Nat} {Q : Exit → Fr → World → Prop} {T : Fr} {w : World}
theorem thenF_ret {K : Fr → World → Prop} (h : Q .ret T w) : thenF K Q .ret T w := h
theorem inBlockF_norm {id : Nat} (h : Q .normal T w) : inBlockF id Q .normal T w := h
theorem thenF_norm {K : Fr → World → Prop} (h : K T w) : thenF K Q .normal T w := h
theorem thenF_exit {K : Fr → World → Prop} {i : Nat} (h : Q (.exit i) T w) : thenF K Q (.exit i) T w := h
theorem inBlockF_hit {id : Nat} (h : Q .normal T w) : inBlockF id Q (.exit id) T w := by
  simp only [inBlockF, Nat.beq_refl, cond_true]; exact h
theorem inBlockF_miss {id i : Nat} (hi : Nat.beq i id = false) (h : Q (.exit i) T w) : inBlockF id Q (.exit i) T w := by
  simp only [inBlockF, hi, cond_false]; exact h
theorem inBlockF_ret {id : Nat} (h : Q .ret T w) : inBlockF id Q .ret T w := h

theorem FW.mono {c : Code} {Q' : Exit → Fr → World → Prop} (h : FW P N c Q T w) (hq : ∀ e T w, Q e T w → Q' e T w) : FW P N c Q' T w :=
  fun a ha => wp_mono (h a ha) fun e a' w' hw => by
    cases e <;> simp only [wrap] at hw ⊢ <;> exact let ⟨T', h1, h2⟩ := hw; ⟨T', h1, hq _ _ _ h2⟩

theorem FW.skip (h : Q .normal T w) : FW P N .skip Q T w := fun a ha => wp_skip ⟨T, ha, h⟩
theorem FW.exit {id : Nat} (h : Q (.exit id) T w) : FW P N (.exit id) Q T w := fun a ha => wp_exit ⟨T, ha, h⟩
theorem FW.goto {l : Nat} (h : Q (.goto l) T w) : FW P N (.goto l) Q T w := fun a ha => wp_goto ⟨T, ha, h⟩
theorem FW.label {l : Nat} (h : Q .normal T w) : FW P N (.label l) Q T w := fun a ha => wp_label ⟨T, ha, h⟩
theorem FW.ret (h : Q .ret T w) : FW P N .ret Q T w := fun a ha => wp_ret ⟨T, ha, h⟩
theorem FW.seq {x y : Code} (h : FW P N x (thenF (FW P N y Q) Q) T w) : FW P N (x.seq y) Q T w :=
  fun a ha => wp_seq (wp_mono (h a ha) fun e a' w' hw => by
    cases e <;> simp only [wrap, thenF, Exit.then] at hw ⊢
    case normal => exact let ⟨T', h1, h2⟩ := hw; h2 a' h1
    all_goals exact hw)
theorem FW.seq_k {x y : Code} (h : ∀ K : Fr → World → Prop, (∀ T w, FW P N y Q T w → K T w) → FW P N x (thenF K Q) T w) : FW P N (x.seq y) Q T w :=
  FW.seq (h _ fun _ _ h => h)
theorem FW.cond {c : Operand} {x y : Code} (t : Bool) (hc : ev T c = .bool t) (ht : t = true → FW P N x Q T w) (hf : t = false → FW P N y Q T w) :
    FW P N (.cond c x y) Q T w := fun a ha =>
  wp_cond (t := t) (by rw [ha.eval]; exact hc) (by
    cases t with
    | true => simpa using ht rfl a ha
    | false => simpa using hf rfl a ha)
theorem FW.block {id : Nat} {c : Code} (h : FW P N c (inBlockF id Q) T w) : FW P N (.block id c) Q T w :=
  fun a ha => wp_block (wp_mono (h a ha) fun e a' w' hw => by
    cases e <;> simp only [wrap, inBlockF, Exit.inBlock] at hw ⊢
    case exit i =>
      split
      · obtain ⟨T', h1, h2⟩ := hw
        rename_i he
        exact ⟨T', h1, by simpa [he] using h2⟩
      · obtain ⟨T', h1, h2⟩ := hw
        rename_i he
        have hb : Nat.beq i id = false := by
          cases hb : Nat.beq i id with
          | false => rfl
          | true => exact absurd (Nat.eq_of_beq_eq_true hb) he
        exact ⟨T', h1, by simpa [hb] using h2⟩
    all_goals exact hw)
theorem FW.loop {c : Code} {σ : Type} (I : σ → Fr → World → Prop) (μ : σ → Nat) (s₀ : σ) (h₀ : I s₀ T w)
    (round : ∀ s T w, I s T w → FW P N c (thenF (fun T' w' => ∃ s', I s' T' w' ∧ μ s' < μ s) Q) T w) : FW P N (.loop c) Q T w := by
  intro a ha b k cs
  have key : ∀ n s T a w, μ s = n → I s T w → Rel N T a →
      ∃ e a' w', wrap N Q e a' w' ∧ Arrives P (lone (b.at a (.code c :: .inLoop c :: k)) cs w) b k cs e a' w' := by
    intro n
    induction n using Nat.strongRecOn with
    | _ n ih =>
      intro s T a w hn hI ha
      obtain ⟨e, a₁, w₁, hq, harr⟩ := round s T w hI a ha b (.inLoop c :: k) cs
      cases e with
      | normal =>
        obtain ⟨T₁, hr, s', hI₁, hlt⟩ := hq
        obtain ⟨e₂, a₂, w₂, hq₂, harr₂⟩ := ih (μ s') (hn ▸ hlt) s' T₁ a₁ w₁ rfl hI₁ hr
        exact ⟨e₂, a₂, w₂, hq₂, .of_steps (Steps.trans harr (.one step_inLoop)) harr₂⟩
      | exit id => exact ⟨.exit id, a₁, w₁, hq, .pass (x := .inLoop c) rfl (fun _ _ => .inl (by simp)) harr⟩
      | goto l => exact ⟨.goto l, a₁, w₁, hq, .pass (x := .inLoop c) rfl (fun _ _ => .inl (by simp)) harr⟩
      | ret => exact ⟨.ret, a₁, w₁, hq, .pass (x := .inLoop c) rfl (fun _ _ => .inl (by simp)) harr⟩
      | panic ch => exact hq.elim
      | outgrown => exact hq.elim
  obtain ⟨e, a', w', hq, harr⟩ := key _ s₀ T a w rfl h₀ ha
  exact ⟨e, a', w', hq, .of_steps (.one step_loop) harr⟩

theorem FW.loop_m {c : Code} (I : Nat → Fr → World → Prop) (m₀ : Nat) (h₀ : I m₀ T w)
    (round : ∀ m T w, I m T w → FW P N c (thenF (fun T' w' => ∃ m', I m' T' w' ∧ m' < m) Q) T w) : FW P N (.loop c) Q T w :=
  FW.loop I id m₀ h₀ round
/-- A frame of which some slots are known. -/
def sets (B : Fr) : List (Nat × Value) → Fr
  | [] => B
  | (d, v) :: l => upd (sets B l) d v
def Holds (T : Fr) : List (Nat × Value) → Prop
  | [] => True
  | (d, v) :: l => T d = v ∧ Holds T l
theorem sets_of {l : List (Nat × Value)} (h : Holds T l) : sets T l = T := by
  induction l with
  | nil => rfl
  | cons p l ih =>
    obtain ⟨d, v⟩ := p
    simp only [sets, ih h.2]
    funext t
    simp only [upd]
    cases hb : Nat.beq t d with
    | false => rfl
    | true => rw [Nat.eq_of_beq_eq_true hb, cond_true]; exact h.1.symm
theorem FW.frame {c : Code} {l : List (Nat × Value)} (hT : Holds T l) (h : ∀ B : Fr, FW P N c Q (sets B l) w) : FW P N c Q T w := by
  rw [← sets_of hT]; exact h T
theorem K_frame {K : Fr → World → Prop} {l : List (Nat × Value)} (h : ∀ B : Fr, K (sets B l) w) (hT : Holds T l) : K T w := by
  rw [← sets_of hT]; exact h T

/-! ### regions -/
theorem lt_of_blt {d N : Nat} (h : Nat.blt d N = true) : d < N := by
  simp [Nat.blt] at h
  exact h
def wantedF (ops : Array Oper) (T : Fr) (o : Oper) : Bool :=
  match o.guard with
  | none => true
  | some (j, want) => match (ops[j]?).bind (·.dst) with
    | some d => (match T d with | .bool b => b == want | _ => false)
    | none => false

theorem wanted_eq {ops : Array Oper} {a : Act} (ha : Rel N T a) (o : Oper) : Region.wanted o (yielded ops a.tmps) = wantedF ops T o := by
  unfold Region.wanted wantedF yielded
  cases hg : o.guard with
  | none => rfl
  | some p =>
    obtain ⟨j, want⟩ := p
    simp only
    cases hd : (ops[j]?).bind (·.dst) with
    | none => rfl
    | some d =>
      have h := ha.get d
      simp only [Option.bind_some]
      rw [Array.getD_eq_getD_getElem?] at h
      cases hx : a.tmps[d]? with
      | none =>
        rw [hx] at h
        simp only [Option.getD_none] at h
        rw [← h]
        simp [undef]
      | some v =>
        rw [hx] at h
        simp only [Option.getD_some] at h
        rw [← h]
        cases v <;> simp <;> (rename_i b; cases b <;> cases want <;> rfl)

def opOk (N : Nat) (o : Oper) : Bool := match o.dst with | some d => Nat.blt d N | none => true
def regOk (N : Nat) (l : List Oper) : Bool := match l with | [] => true | o :: l => (opOk N o).and (regOk N l)
theorem regOk.cons {N : Nat} {o : Oper} {l : List Oper} (h : regOk N (o :: l) = true) : opOk N o = true ∧ regOk N l = true := by
  simpa [regOk] using h
theorem opOk.lt {N : Nat} {o : Oper} {d : Nat} (h : opOk N o = true) (hd : o.dst = some d) : d < N := by
  simp only [opOk, hd] at h
  exact lt_of_blt h
/-- The operations of a region in the order of the text, from a frame on. -/
def FWl (P : Program) (N : Nat) (ops : Array Oper) (Q : Exit → Fr → World → Prop) (l : List Oper) (T : Fr) (w : World) : Prop :=
  regOk N l = true → ∀ a, Rel N T a → wpList P ops (wrap N Q) l a w

theorem FW.region {id : Nat} {l : List Oper} (hok : regOk N l = true) (h : FWl P N l.toArray Q l T w) : FW P N (.region id l.toArray false) Q T w :=
  fun a ha => wp_region_lit (h hok a ha)
theorem FWl.nil {ops : Array Oper} (h : Q .normal T w) : FWl P N ops Q [] T w := fun _ a ha => ⟨T, ha, h⟩
theorem FWl.skip {ops : Array Oper} {o : Oper} {l : List Oper} (d : Nat) (hd : o.dst = some d) (hw : wantedF ops T o = false)
    (h : FWl P N ops Q l (upd T d undef) w) : FWl P N ops Q (o :: l) T w := fun hok a ha => by
  obtain ⟨hok1, hok2⟩ := regOk.cons hok
  simp only [wpList, wanted_eq ha, hw, hd]
  exact h hok2 _ (ha.put (opOk.lt hok1 hd) _)
theorem FWl.val {ops : Array Oper} {o : Oper} {l : List Oper} (d : Nat) (hd : o.dst = some d) (hw : wantedF ops T o = true) (v : Value) (w' : World)
    (hrun : (execOp (ev T) o).run P w = .ok (.value v) w') (h : FWl P N ops Q l (upd T d v) w') : FWl P N ops Q (o :: l) T w := fun hok a ha => by
  obtain ⟨hok1, hok2⟩ := regOk.cons hok
  simp only [wpList, wanted_eq ha, hw, if_true]
  refine .inl ?_
  unfold Oper.wp
  rw [ha.eval, hrun, Oper.upon_value, hd]
  exact h hok2 _ (ha.put (opOk.lt hok1 hd) _)
theorem FWl.valNone {ops : Array Oper} {o : Oper} {l : List Oper} (hd : o.dst = none) (hw : wantedF ops T o = true) (v : Value) (w' : World)
    (hrun : (execOp (ev T) o).run P w = .ok (.value v) w') (h : FWl P N ops Q l T w') : FWl P N ops Q (o :: l) T w := fun hok a ha => by
  obtain ⟨hok1, hok2⟩ := regOk.cons hok
  simp only [wpList, wanted_eq ha, hw, if_true]
  refine .inl ?_
  unfold Oper.wp
  rw [ha.eval, hrun, Oper.upon_value, hd]
  exact h hok2 _ ha
theorem FWl.unit {ops : Array Oper} {o : Oper} {l : List Oper} (hd : o.dst = none) (hw : wantedF ops T o = true) (w' : World)
    (hrun : (execOp (ev T) o).run P w = .ok .skip w') (h : FWl P N ops Q l T w') : FWl P N ops Q (o :: l) T w := fun hok a ha => by
  obtain ⟨hok1, hok2⟩ := regOk.cons hok
  simp only [wpList, wanted_eq ha, hw, if_true]
  refine .inl ?_
  unfold Oper.wp
  rw [ha.eval, hrun, Oper.upon_skip, hd]
  exact h hok2 _ ha
/-- A call that returns. -/
def Ret (P : Program) (f : FuncId) (args : Array Value) (w : World) (R : Value → World → Prop) : Prop :=
  Calls P f args w fun e w' => ∃ v, e = .returned v ∧ R v w'
theorem Ret.mono {f : FuncId} {args : Array Value} {R R' : Value → World → Prop} (h : Ret P f args w R) (hr : ∀ v w', R v w' → R' v w') : Ret P f args w R' :=
  Calls.mono h fun _ _ ⟨v, he, h1⟩ => ⟨v, he, hr _ _ h1⟩
theorem FWl.call {ops : Array Oper} {o : Oper} {l : List Oper} (d : Nat) (hd : o.dst = some d) (hw : wantedF ops T o = true) (f : FuncId) (args : Array Value)
    (hrun : (execOp (ev T) o).run P w = .ok (.enter f args) w) (h : Ret P f args w fun v w' => FWl P N ops Q l (upd T d v) w') : FWl P N ops Q (o :: l) T w := fun hok a ha => by
  obtain ⟨hok1, hok2⟩ := regOk.cons hok
  simp only [wpList, wanted_eq ha, hw, if_true]
  refine .inl ?_
  unfold Oper.wp
  rw [ha.eval, hrun, Oper.upon_enter]
  refine Calls.mono h fun e w' ⟨v, he, h1⟩ => ?_
  subst he
  rw [hd]
  exact h1 hok2 _ (ha.put (opOk.lt hok1 hd) _)
theorem FWl.callNone {ops : Array Oper} {o : Oper} {l : List Oper} (hd : o.dst = none) (hw : wantedF ops T o = true) (f : FuncId) (args : Array Value)
    (hrun : (execOp (ev T) o).run P w = .ok (.enter f args) w) (h : Ret P f args w fun _ w' => FWl P N ops Q l T w') : FWl P N ops Q (o :: l) T w := fun hok a ha => by
  obtain ⟨hok1, hok2⟩ := regOk.cons hok
  simp only [wpList, wanted_eq ha, hw, if_true]
  refine .inl ?_
  unfold Oper.wp
  rw [ha.eval, hrun, Oper.upon_enter]
  refine Calls.mono h fun e w' ⟨v, he, h1⟩ => ?_
  subst he
  rw [hd]
  exact h1 hok2 _ ha

/-! ### a function's call -/
def args0 (args : Array Value) : Fr := fun t => args.getD t undef
/-- The body's end: the results are read. -/
def bodyF (P : Program) (fn : Func) (R : Value → World → Prop) : Exit → Fr → World → Prop
  | .normal, T, w | .ret, T, w => ∀ tmps : Array Value, (∀ t, tmps.getD t undef = T t) → ∃ v, (results fn tmps).run P w = .ok v w ∧ R v w
  | _, _, _ => False
theorem Ret.of {f : FuncId} {fn : Func} {c : Code} {args : Array Value} {R : Value → World → Prop} (hf : P.funcs[f]? = some fn) (hb : fn.body = some c) (hn : fn.ntmps = N) (hs' : Nat.ble args.size N = true)
    (h : FW P N c (bodyF P fn R) (args0 args) w) : Ret P f args w R := by
  have hs : args.size ≤ N := Nat.le_of_ble_eq_true hs'
  refine calls_of_wp hf hb ?_
  have hrel : Rel N (args0 args) { tmps := args ++ Array.replicate (fn.ntmps - args.size) undef, defers := [] } := by
    refine ⟨by simp [hn]; omega, rfl, fun t => ?_⟩
    simp only [args0, Array.getD_eq_getD_getElem?, Array.getElem?_append, Array.getElem?_replicate]
    by_cases h1 : t < args.size
    · simp [h1]
    · simp only [h1, if_false]
      rw [Array.getElem?_eq_none (by omega)]
      split <;> rfl
  refine wp_mono (h _ hrel) fun e a' w' hw => ?_
  cases e <;> simp only [wrap, bodyF, bodyPost] at hw ⊢
  case normal =>
    obtain ⟨T', h1, h2⟩ := hw
    obtain ⟨v, hv, hR⟩ := h2 a'.tmps h1.get
    exact ⟨h1.defers, v, hv, v, rfl, hR⟩
  case ret =>
    obtain ⟨T', h1, h2⟩ := hw
    obtain ⟨v, hv, hR⟩ := h2 a'.tmps h1.get
    exact ⟨h1.defers, v, hv, v, rfl, hR⟩
  all_goals first | exact hw.elim | (obtain ⟨_, _, h⟩ := hw; exact h.elim)
theorem ret_none {fn : Func} (h : fn.results = #[]) {R : Value → World → Prop} {T : Fr} {w : World} {e : Exit} (he : e = .ret ∨ e = .normal) (hR : R (.tuple #[]) w) : bodyF P fn R e T w := by
  have : ∀ tmps : Array Value, (∀ t, tmps.getD t undef = T t) → ∃ v, (results fn tmps).run P w = .ok v w ∧ R v w := fun tmps ht => ⟨_, results_none h tmps P w, hR⟩
  rcases he with rfl | rfl <;> exact this
theorem ret_tmp {fn : Func} {t : Tmp} (h : fn.results = #[.tmp t]) {R : Value → World → Prop} {T : Fr} {w : World} {e : Exit} (he : e = .ret ∨ e = .normal) {v : Value} (hv : T t = v) (hR : R v w) : bodyF P fn R e T w := by
  subst hv
  have : ∀ tmps : Array Value, (∀ t, tmps.getD t undef = T t) → ∃ v, (results fn tmps).run P w = .ok v w ∧ R v w := fun tmps ht => ⟨T t, by rw [← ht t]; exact results_tmp h tmps P w, hR⟩
  rcases he with rfl | rfl <;> exact this
theorem ret_tmp2 {fn : Func} {t u : Tmp} (h : fn.results = #[.tmp t, .tmp u]) {R : Value → World → Prop} {T : Fr} {w : World} {e : Exit} (he : e = .ret ∨ e = .normal) {v v' : Value} (hv : T t = v) (hv' : T u = v') (hR : R (.tuple #[v, v']) w) : bodyF P fn R e T w := by
  subst hv hv'
  have : ∀ tmps : Array Value, (∀ t, tmps.getD t undef = T t) → ∃ v, (results fn tmps).run P w = .ok v w ∧ R v w := fun tmps ht => ⟨_, by rw [← ht t, ← ht u] at *; exact results_tmp2 h tmps P w, hR⟩
  rcases he with rfl | rfl <;> exact this
theorem ret_tmp3 {fn : Func} {t u s : Tmp} (h : fn.results = #[.tmp t, .tmp u, .tmp s]) {R : Value → World → Prop} {T : Fr} {w : World} {e : Exit} (he : e = .ret ∨ e = .normal) {v v' v'' : Value} (hv : T t = v) (hv' : T u = v') (hv'' : T s = v'') (hR : R (.tuple #[v, v', v'']) w) : bodyF P fn R e T w := by
  subst hv hv' hv''
  have : ∀ tmps : Array Value, (∀ t, tmps.getD t undef = T t) → ∃ v, (results fn tmps).run P w = .ok v w ∧ R v w := fun tmps ht => ⟨_, by rw [← ht t, ← ht u, ← ht s] at *; exact results_tmp3 h tmps P w, hR⟩
  rcases he with rfl | rfl <;> exact this
end
end Go.Proofs.Ytlofomkhiefbmaa
