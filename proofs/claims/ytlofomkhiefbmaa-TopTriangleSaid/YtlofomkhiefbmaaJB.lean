/- Regions that draw their order: what yields the same value in every world of a class may be taken first; behind the operations of a tail Z, which wait for all that is taken so, the class is not asked for. (After Derived.OrdersHeld.) -/
import Derived.Test.YtlofomkhiefbmaaJA
set_option linter.unusedVariables false
namespace Go.Proofs.Ytlofomkhiefbmaa
open Go.RowKit
section
variable {P : Program} {ops : Array Oper} {Q : Exit → Act → World → Prop} {md : Region.Mode} {S : World → Prop} {Z : Nat → Bool}

def wpAnyG (P : Program) (md : Region.Mode) (ops : Array Oper) (Q : Exit → Act → World → Prop) (S : World → Prop) (Z : Nat → Bool) : Nat → Array Bool → Act → World → Prop
  | 0, listed, a, w => Region.ready md ops listed = [] ∧ Q .normal a w
  | fuel + 1, listed, a, w =>
    (Region.ready md ops listed = [] → Q .normal a w) ∧
    ∀ i ∈ Region.ready md ops listed, wpOp P ops Q i (fun a' w' => (Z i = true ∨ S w') ∧ wpAnyG P md ops Q S Z fuel (listed.setIfInBounds i true) a' w') a w
theorem wpAny_of_G : ∀ (fuel : Nat) (listed : Array Bool) (a : Act) (w : World), wpAnyG P md ops Q S Z fuel listed a w → wpAny P md ops Q fuel listed a w
  | 0, _, _, _, h => h
  | fuel + 1, _, _, _, h => ⟨h.1, fun i hi => wpOp_mono (fun a' w' h' => wpAny_of_G fuel _ a' w' h'.2) (h.2 i hi)⟩
theorem wpAnyG_first {i : Nat} {oi : Oper} {v : Value} (hi : ops[i]? = some oi) (hsel : ∀ (j : Nat) (o : Oper) cs b, ops[j]? = some o → o.op ≠ .select cs b)
    (hQ : ∀ c a w, Q (.panic c) (a.put oi.dst v) w → Q (.panic c) a w)
    (hZ : ∀ j oj, ops[j]? = some oj → Z j = true → ∃ e ∈ oj.after, Region.binds md e = true ∧ e.on = i) :
    ∀ (fuel : Nat) (listed : Array Bool) (a : Act) (w : World),
      (∀ j oj, ops[j]? = some oj → j ≠ i → listed.getD j true = false → (∀ e ∈ oj.after, Region.binds md e = true → e.on ≠ i) → oi.apart ops oj = true) →
      i ∈ Region.ready md ops listed → YieldsIf P ops S oi v a → S w →
      wpAnyG P md ops Q S Z fuel (listed.setIfInBounds i true) (a.put oi.dst v) w → wpAnyG P md ops Q S Z (fuel + 1) listed a w := by
  intro fuel
  induction fuel with
  | zero =>
    intro listed a w _ hr hy hS H
    refine ⟨fun h => (by rw [h] at hr; cases hr), fun j hj => ?_⟩
    by_cases hji : j = i
    · subst hji; exact hy.wpOp hi hS ⟨.inr hS, H⟩
    · have := ready_mono hj hji
      rw [H.1] at this
      cases this
  | succ fuel ih =>
    intro listed a w hfree hr hy hS H
    refine ⟨fun h => (by rw [h] at hr; cases hr), fun j hj => ?_⟩
    by_cases hji : j = i
    · subst hji; exact hy.wpOp hi hS ⟨.inr hS, H⟩
    · have h1 := H.2 j (ready_mono hj hji)
      obtain ⟨hjun, oj, hoj, hall⟩ := mem_ready.1 hj
      have hnot : ∀ e ∈ oj.after, Region.binds md e = true → e.on ≠ i := fun e he hb heq => by
        have h1 := hall e he hb
        have h0 := (mem_ready.1 hr).1
        rw [heq] at h1
        rcases Nat.lt_or_ge i listed.size with h' | h'
        · simp [h'] at h0 h1; rw [h0] at h1; cases h1
        · simp [Array.getElem?_eq_none h'] at h1
      have h2 := wpOp_putIf hoj (hfree j oj hoj hji hjun hnot) (fun cs b => hsel i oi cs b hi) (fun cs b => hsel j oj cs b hoj) hQ hy h1
      have hfree' : ∀ k ok, ops[k]? = some ok → k ≠ i → (listed.setIfInBounds j true).getD k true = false →
          (∀ e ∈ ok.after, Region.binds md e = true → e.on ≠ i) → oi.apart ops ok = true := fun k ok hk hki hun hno => by
        refine hfree k ok hk hki ?_ hno
        by_cases hjk : j = k
        · subst hjk; exact hjun
        · rw [getD_set_ne true hjk] at hun; exact hun
      refine wpOp_mono (fun a' w' h3 => ?_) h2
      obtain ⟨h3, h4, h5⟩ := h3
      have hSw : S w' := by
        rcases h4 with h4 | h4
        · obtain ⟨e, he, hb, hon⟩ := hZ j oj hoj h4
          exact absurd hon (hnot e he hb)
        · exact h4
      exact ⟨.inr hSw, ih (listed.setIfInBounds j true) a' w' hfree' (ready_mono hr (Ne.symm hji)) h3 hSw (by rw [Array.setIfInBounds_comm _ _ hji]; exact h5)⟩

/-! ### a schedule: (number, taken first?) -/
def zWaits (ops : Array Oper) (zs : List Nat) (i : Nat) : Bool :=
  zs.all fun j => match ops[j]? with
    | some o => o.after.any fun e => Region.binds .any e && e.on == i
    | none => true
def schedOk (ops : Array Oper) (zs : List Nat) : List (Nat × Bool) → Array Bool → Bool
  | [], listed => (Region.ready .any ops listed).isEmpty
  | (i, true) :: rest, listed => Region.free .any ops listed i && (Region.ready .any ops listed).contains i && zWaits ops zs i && schedOk ops zs rest (listed.setIfInBounds i true)
  | (i, false) :: rest, listed => (Region.ready .any ops listed == [i]) && schedOk ops zs rest (listed.setIfInBounds i true)

/-- The walk along a schedule: what is taken first yields its value in every world of the class; behind any other (but for the tail) the class is shown anew. -/
def wpS (P : Program) (ops : Array Oper) (Q : Exit → Act → World → Prop) (S : World → Prop) (zs : List Nat) : List (Nat × Bool) → Act → World → Prop
  | [], a, w => Q .normal a w
  | (i, true) :: rest, a, w => ∃ oi v, ops[i]? = some oi ∧ S w ∧ YieldsIf P ops S oi v a ∧ wpS P ops Q S zs rest (a.put oi.dst v) w
  | (i, false) :: rest, a, w => wpOp P ops Q i (fun a' w' => (zs.contains i = true ∨ S w') ∧ wpS P ops Q S zs rest a' w') a w

theorem wpAnyG_of_S (hs : Region.noSelect ops = true) (hQ : ∀ c a w (d : Option Tmp) v, Q (.panic c) (a.put d v) w → Q (.panic c) a w) {zs : List Nat} :
    ∀ (l : List (Nat × Bool)) (listed : Array Bool) (a : Act) (w : World), schedOk ops zs l listed = true → wpS P ops Q S zs l a w → wpAnyG P .any ops Q S (fun i => zs.contains i) l.length listed a w
  | [], listed, a, w, hok, h => ⟨by simpa [schedOk] using hok, h⟩
  | (i, true) :: rest, listed, a, w, hok, h => by
    simp only [schedOk, Bool.and_eq_true] at hok
    obtain ⟨⟨⟨hf, hr⟩, hz⟩, hok⟩ := hok
    obtain ⟨oi, v, hi, hS, hy, h⟩ := h
    refine wpAnyG_first hi (Region.noSelect_spec hs) (fun c a w => hQ c a w _ _) (fun j oj hj hZ => ?_) rest.length listed a w (Region.free_spec hi hf) (by simpa using hr) hy hS (wpAnyG_of_S hs hQ rest _ _ _ hok h)
    simp only [zWaits, List.all_eq_true] at hz
    have := hz j (by simpa using hZ)
    rw [hj] at this
    obtain ⟨e, he, hb⟩ := Array.any_eq_true'.1 this
    simp only [Bool.and_eq_true, beq_iff_eq] at hb
    exact ⟨e, he, hb.1, hb.2⟩
  | (i, false) :: rest, listed, a, w, hok, h => by
    simp only [schedOk, Bool.and_eq_true, beq_iff_eq] at hok
    obtain ⟨hr, hok⟩ := hok
    refine ⟨fun h0 => (by rw [hr] at h0; cases h0), fun j hj => ?_⟩
    rw [hr] at hj
    simp only [List.mem_singleton] at hj
    subst hj
    exact wpOp_mono (fun a' w' h' => ⟨h'.1, wpAnyG_of_S hs hQ rest _ _ _ hok h'.2⟩) h
end

theorem regOk_mem {N : Nat} {o : Oper} (l : List Oper) (h : regOk N l = true) (hm : o ∈ l) : opOk N o = true := by
  induction l with
  | nil => cases hm
  | cons o' l ih =>
    have := regOk.cons h
    rcases List.mem_cons.1 hm with rfl | hm
    · exact this.1
    · exact ih this.2 hm
theorem regOk_at {N : Nat} {ops : Array Oper} {i : Nat} {o : Oper} (h : regOk N ops.toList = true) (hi : ops[i]? = some o) : opOk N o = true :=
  regOk_mem _ h (by rw [← Array.getElem?_toList] at hi; exact List.mem_of_getElem? hi)
section
variable {P : Program} {N : Nat} {Q : Exit → Fr → World → Prop} {T : Fr} {w : World}
/-- A schedule over the frame. -/
def FWs (P : Program) (N : Nat) (ops : Array Oper) (Q : Exit → Fr → World → Prop) (S : World → Prop) (zs : List Nat) (l : List (Nat × Bool)) (T : Fr) (w : World) : Prop :=
  regOk N ops.toList = true → ∀ a, Rel N T a → wpS P ops (wrap N Q) S zs l a w
theorem FW.regionDraw {id : Nat} {l : List Oper} (hm : P.follows .mixedOrders = true) (S : World → Prop) (zs : List Nat) (sched : List (Nat × Bool))
    (hreg : regOk N l = true) (hok : (Region.noSelect l.toArray && (sched.length == l.length) && schedOk l.toArray zs sched (Array.replicate l.length false)) = true)
    (h : FWs P N l.toArray Q S zs sched T w.drew) : FW P N (.region id l.toArray true) Q T w := fun a ha => by
  simp only [Bool.and_eq_true, beq_iff_eq] at hok
  obtain ⟨⟨hs, hlen⟩, hok⟩ := hok
  refine wp_region_any hm ?_
  have := wpAny_of_G _ _ _ _ (wpAnyG_of_S (P := P) (Q := wrap N Q) (S := S) hs (fun c a w d v h => h.elim) sched (Array.replicate l.length false) a w.drew hok (h hreg a ha))
  rw [hlen] at this
  simpa using this
theorem FWs.nil {ops : Array Oper} {S : World → Prop} {zs : List Nat} (h : Q .normal T w) : FWs P N ops Q S zs [] T w := fun _ a ha => ⟨T, ha, h⟩
variable {ops : Array Oper} {S : World → Prop} {zs : List Nat} {l : List (Nat × Bool)} {i : Nat} {o : Oper}
theorem FWs.take (hi : ops[i]? = some o) (d : Nat) (hd : o.dst = some d) (hw : wantedF ops T o = true) (v : Value) (hS : S w)
    (hrun : ∀ w', S w' → (execOp (ev T) o).run P w' = .ok (.value v) w') (h : FWs P N ops Q S zs l (upd T d v) w) : FWs P N ops Q S zs ((i, true) :: l) T w := fun hok a ha => by
  refine ⟨o, v, hi, hS, .inl ⟨by rw [wanted_eq ha]; exact hw, fun w' hw' => by rw [ha.eval]; exact hrun w' hw'⟩, ?_⟩
  rw [hd]
  exact h hok _ (ha.put (opOk.lt (regOk_at hok hi) hd) _)
theorem FWs.takeSkip (hi : ops[i]? = some o) (d : Nat) (hd : o.dst = some d) (hw : wantedF ops T o = false) (hS : S w)
    (h : FWs P N ops Q S zs l (upd T d undef) w) : FWs P N ops Q S zs ((i, true) :: l) T w := fun hok a ha => by
  refine ⟨o, undef, hi, hS, .inr ⟨by rw [wanted_eq ha]; exact hw, rfl⟩, ?_⟩
  rw [hd]
  exact h hok _ (ha.put (opOk.lt (regOk_at hok hi) hd) _)
theorem FWs.skip (hi : ops[i]? = some o) (d : Nat) (hd : o.dst = some d) (hw : wantedF ops T o = false) (hS : zs.contains i = true ∨ S w)
    (h : FWs P N ops Q S zs l (upd T d undef) w) : FWs P N ops Q S zs ((i, false) :: l) T w := fun hok a ha => by
  simp only [wpS, wpOp, hi, wanted_eq ha, hw, hd]
  exact ⟨hS, h hok _ (ha.put (opOk.lt (regOk_at hok hi) hd) _)⟩
theorem FWs.val (hi : ops[i]? = some o) (d : Nat) (hd : o.dst = some d) (hw : wantedF ops T o = true) (v : Value) (w' : World)
    (hrun : (execOp (ev T) o).run P w = .ok (.value v) w') (hS : zs.contains i = true ∨ S w') (h : FWs P N ops Q S zs l (upd T d v) w') : FWs P N ops Q S zs ((i, false) :: l) T w := fun hok a ha => by
  simp only [wpS, wpOp, hi, wanted_eq ha, hw, if_true]
  refine .inl ?_
  unfold Oper.wp
  rw [ha.eval, hrun, Oper.upon_value, hd]
  exact ⟨hS, h hok _ (ha.put (opOk.lt (regOk_at hok hi) hd) _)⟩
theorem FWs.unit (hi : ops[i]? = some o) (hd : o.dst = none) (hw : wantedF ops T o = true) (w' : World)
    (hrun : (execOp (ev T) o).run P w = .ok .skip w') (hS : zs.contains i = true ∨ S w') (h : FWs P N ops Q S zs l T w') : FWs P N ops Q S zs ((i, false) :: l) T w := fun hok a ha => by
  simp only [wpS, wpOp, hi, wanted_eq ha, hw, if_true]
  refine .inl ?_
  unfold Oper.wp
  rw [ha.eval, hrun, Oper.upon_skip, hd]
  exact ⟨hS, h hok _ ha⟩
theorem FWs.call (hi : ops[i]? = some o) (d : Nat) (hd : o.dst = some d) (hw : wantedF ops T o = true) (f : FuncId) (args : Array Value)
    (hrun : (execOp (ev T) o).run P w = .ok (.enter f args) w)
    (h : Ret P f args w fun v w' => (zs.contains i = true ∨ S w') ∧ FWs P N ops Q S zs l (upd T d v) w') : FWs P N ops Q S zs ((i, false) :: l) T w := fun hok a ha => by
  simp only [wpS, wpOp, hi, wanted_eq ha, hw, if_true]
  refine .inl ?_
  unfold Oper.wp
  rw [ha.eval, hrun, Oper.upon_enter]
  refine Calls.mono h fun e w' ⟨v, he, h0, h1⟩ => ?_
  subst he
  rw [hd]
  exact ⟨h0, h1 hok _ (ha.put (opOk.lt (regOk_at hok hi) hd) _)⟩
end
end Go.Proofs.Ytlofomkhiefbmaa
