/- Maps keyed by lines; arrays behind pointers. -/
import Derived.Test.YtlofomkhiefbmaaJK
import Derived.MapKept
set_option linter.unusedVariables false
namespace Go.Proofs.Ytlofomkhiefbmaa
open Go.RowKit
/-- A block that is a map. -/
structure Mp (w : World) (C : Gh) (g : Nat) (es : List MapEntry) (ck : Nat) : Prop where
  blk : w.heap[g]? = some (.map es.toArray ck)
  un : ∀ o, C g o = none
section
variable {w w' : World} {C C' C1 : Gh} {g g' : Nat} {es : List MapEntry} {ck : Nat}
theorem Mp.lt (h : Mp w C g es ck) : g < w.heap.size := blk_lt' h.blk
theorem Mp.ext {B : Nat} (h : Mp w C g es ck) (e : Ext B w C w' C') (hg : g < B) : Mp w' C' g es ck := ⟨(e.below.block g hg).trans h.blk, fun o => (e.old g o hg).trans (h.un o)⟩
theorem Mp.call (h : Mp w C g es ck) (e : Ext w.heap.size w C w' C') : Mp w' C' g es ck := h.ext e h.lt
theorem Mp.other (h : Mp w C g es ck) (m : Mut g' w C w' C') (hne : g ≠ g') : Mp w' C' g es ck :=
  ⟨(m.grown.block g h.lt (by simp; exact hne)).trans h.blk, fun o => (m.old g o h.lt hne).trans (h.un o)⟩
theorem Mp.app {A A' : Option Addr} {n c n' c' : Nat} (h : Mp w C g es ck) (m : App A n c w C A' n' c' w' C') (hn : Nb A n c g) : Mp w' C' g es ck :=
  ⟨((m.oth g h.lt hn).1).trans h.blk, fun o => ((m.oth g h.lt hn).2 o).trans (h.un o)⟩
theorem Mp.ne_st {cs : List Value} {t : TypeId} (h : Mp w C g es ck) (s : St w C1 g' cs t) : g ≠ g' := fun e => by
  subst e
  have := h.blk
  rw [s.blk] at this
  cases this
theorem Own.nbM {B e sz : Nat} {A : Option Addr} {n c : Nat} (h : Own B e sz w C A n c) (s : Mp w C1 g es ck) : Nb A n c g := fun hl a ha hb => by
  obtain ⟨g', o, cs, h1, _, h3, _⟩ := h.sp hl
  rw [h1] at ha
  cases ha
  simp only at hb
  subst hb
  have := s.blk
  rw [h3] at this
  cases this
end
theorem Own.nb2T {B B2 e e2 sz sz2 : Nat} {w : World} {C C1 : Gh} {A A2 : Option Addr} {n c n2 c2 : Nat} (h : Own B e sz w C A n c) (h2 : Own B2 e2 sz2 w C1 A2 n2 c2) (hne : e ≠ e2) : Nb2 A n c A2 n2 c2 := fun hl2 a2 ha2 hl a ha hb => by
  obtain ⟨g, o, cs, h3, _, h4, _⟩ := h.sp hl
  obtain ⟨g2, o2, cs2, h5, _, h6, _⟩ := h2.sp hl2
  rw [h3] at ha
  rw [h5] at ha2
  cases ha
  cases ha2
  simp only at hb
  subst hb
  rw [h4] at h6
  simp only [Option.some.injEq, Obj.cells.injEq] at h6
  exact hne h6.2.1
def keyV (x : Line) : Value := .agg #[.string x.text, .bool x.bare]
def mesF (n : Nat) : List Line → List MapEntry
  | [] => []
  | k :: ks => ⟨keyV k, .int .i64 (n : Int), n⟩ :: mesF (n + 1) ks
def mes (ks : List Line) : List MapEntry := mesF 0 ks
theorem mesF_len : ∀ (ks : List Line) (n : Nat), (mesF n ks).length = ks.length
  | [], n => rfl
  | k :: ks, n => by simp [mesF, mesF_len ks]
theorem mesF_snoc (x : Line) : ∀ (ks : List Line) (n : Nat), mesF n (ks ++ [x]) = mesF n ks ++ [⟨keyV x, .int .i64 ((n + ks.length : Nat) : Int), n + ks.length⟩]
  | [], n => by simp [mesF]
  | k :: ks, n => by simp [mesF, mesF_snoc x ks, Nat.add_comm, Nat.add_left_comm]
section
variable {P : Program} {w : World} {T : TypeId}
/-- What a look-up answers. -/
def lk (ks : List Line) (x : Line) : Int := if x ∈ ks then ((ks.idxOf x : Nat) : Int) else 0
/-- The number of a line. -/
def ix (ks : List Line) (x : Line) : Int := ((ks.idxOf x : Nat) : Int)
theorem lk_ix {ks : List Line} {x : Line} (h : x ∈ ks) : lk ks x = ix ks x := by simp [lk, ix, h]
theorem ix_pre {ks ks' : List Line} (hp : ks <+: ks') {x : Line} (h : x ∈ ks) : ix ks' x = ix ks x := by
  obtain ⟨t, rfl⟩ := hp
  simp only [ix, List.idxOf_append, h, if_true]
theorem ix_new {ks : List Line} {x : Line} (h : x ∉ ks) : ix (ks ++ [x]) x = ((ks.length : Nat) : Int) := by
  simp [ix, List.idxOf_append, h]
theorem ix_inj {ks : List Line} {x y : Line} (hx : x ∈ ks) (hy : y ∈ ks) (h : ix ks x = ix ks y) : x = y := by
  have h' : ks.idxOf x = ks.idxOf y := by unfold ix at h; omega
  have h1 := List.getElem_idxOf (List.idxOf_lt_length_of_mem hx)
  have h2 := List.getElem_idxOf (List.idxOf_lt_length_of_mem hy)
  rw [← h1, ← h2]
  simp only [h']
theorem row_found {ks l : List Line} {k : Nat} {x : Line} {row : List Int} (hx : l[k]? = some x) (h : x ∈ ks) (hr : row = (l.take k).map (ix ks)) : row ++ [lk ks x] = (l.take (k + 1)).map (ix ks) := by
  rw [take_snoc hx, List.map_append, hr, lk_ix h]; rfl
theorem row_new {ks l : List Line} {k : Nat} {x : Line} {row : List Int} (hx : l[k]? = some x) (h : x ∉ ks) (hr : row = (l.take k).map (ix ks)) (hm : ∀ y ∈ l.take k, y ∈ ks) : row ++ [((ks.length : Nat) : Int)] = (l.take (k + 1)).map (ix (ks ++ [x])) := by
  rw [take_snoc hx, List.map_append, hr, List.map_cons, List.map_nil, ix_new h]
  congr 1
  exact List.map_congr_left fun y hy => (ix_pre ⟨[x], rfl⟩ (hm y hy)).symm
theorem out_next {ks ks2 : List Line} {lists : List (List Line)} {k : Nat} {l : List Line} {row : List Int} {out : List (List Int)} (hl : lists[k]? = some l) (ho : out = (lists.take k).map fun l => l.map (ix ks)) (hm : ∀ l ∈ lists.take k, ∀ x ∈ l, x ∈ ks) (hp : ks <+: ks2) (hr : row = l.map (ix ks2)) :
    out ++ [row] = (lists.take (k + 1)).map fun l => l.map (ix ks2) := by
  rw [take_snoc hl, List.map_append, ho, hr]
  congr 1
  exact List.map_congr_left fun l hl => List.map_congr_left fun x hx => (ix_pre hp (hm l hl x hx)).symm
theorem mem_take_succ {α : Type} {l : List α} {k : Nat} {x : α} {p : α → Prop} (hx : l[k]? = some x) (h : ∀ y ∈ l.take k, p y) (h1 : p x) : ∀ y ∈ l.take (k + 1), p y := by
  rw [take_snoc hx]
  intro y hy
  rcases List.mem_append.1 hy with hy | hy
  · exact h y hy
  · rw [List.mem_singleton.1 hy]; exact h1
theorem findAsk (heq : ∀ (w : World) (a : ByteArray) (b : Bool) (a' : ByteArray) (b' : Bool), (Op.equal T (.agg #[.string a, .bool b]) (.agg #[.string a', .bool b'])).run P w = .ok (decide ((⟨a, b⟩ : Line) = ⟨a', b'⟩)) w) (x : Line) :
    ∀ (ks : List Line) (n i : Nat), (Instr.findAsking T (keyV x) (mesF n ks) i).run P w = .ok (if x ∈ ks then some (i + ks.idxOf x, .int .i64 ((n + ks.idxOf x : Nat) : Int)) else none) w := by
  intro ks
  induction ks with
  | nil => intro n i; simp [mesF, Instr.findAsking]
  | cons k ks ih =>
    intro n i
    have h1 := heq w x.text x.bare k.text k.bare
    simp only [mesF, Instr.findAsking, keyV, Sem.run_bind, h1, Result.andThen_ok]
    by_cases e : x = k
    · subst e
      simp
    · have e' : ¬ k = x := fun h => e h.symm
      have ih' := ih (n + 1) (i + 1)
      simp only [keyV] at ih'
      simp only [e, decide_false, Bool.false_eq_true, if_false, ih']
      have e2 : (k == x) = false := by simpa using e'
      simp only [List.mem_cons, e, false_or, List.idxOf_cons, e2, cond_false]
      split
      · congr 3
        · omega
        · congr 1; omega
      · rfl
theorem findKey_mes {fs : Array Field} (hu : P.underlying T = some (.struct fs)) (heq : ∀ (w : World) (a : ByteArray) (b : Bool) (a' : ByteArray) (b' : Bool), (Op.equal T (.agg #[.string a, .bool b]) (.agg #[.string a', .bool b'])).run P w = .ok (decide ((⟨a, b⟩ : Line) = ⟨a', b'⟩)) w) (x : Line) (ks : List Line) :
    (Instr.findKey T (keyV x) (mes ks)).run P w = .ok (if x ∈ ks then some (ks.idxOf x, .int .i64 ((ks.idxOf x : Nat) : Int)) else none) w := by
  have h := findAsk (w := w) heq x ks 0 0
  simp only [Nat.zero_add] at h
  cases ks with
  | nil => simp [Instr.findKey, run_underlying hu, mes, mesF, Instr.findNow]
  | cons k ks =>
    simp only [Instr.findKey, Sem.run_bind, run_underlying hu, Result.andThen_ok, mes, mesF, Instr.findNow, Instr.sameNow]
    exact h
theorem checkKey_str {e : TypeId} {n : Nat} {em : Bool} {s : ByteArray} (hu : P.underlying e = some .string) : (Instr.checkKey em (n + 1) e (.string s)).run P w = .ok () w := by simp [Instr.checkKey, run_underlying hu]
theorem checkKey_bool {e : TypeId} {n : Nat} {em : Bool} {s : Bool} (hu : P.underlying e = some .bool) : (Instr.checkKey em (n + 1) e (.bool s)).run P w = .ok () w := by simp [Instr.checkKey, run_underlying hu]
theorem checkKey_line {f1 f2 : Field} {em : Bool} {x : Line} (hu : P.underlying T = some (.struct #[f1, f2])) (h1 : P.underlying f1.type = some .string) (h2 : P.underlying f2.type = some .bool) (o1 : f1.offset = 0) (o2 : f2.offset = 1)
    (a1 : ∀ w, (isAgg f1.type).run P w = .ok false w) (a2 : ∀ w, (isAgg f2.type).run P w = .ok false w) : (Instr.checkKey em 10000 T (keyV x)).run P w = .ok () w := by
  rw [show 10000 = 9998 + 1 + 1 from rfl, Instr.checkKey]
  have c1 := checkKey_str (w := w) (n := 9998) (em := em) (s := x.text) h1
  have c2 := checkKey_bool (w := w) (n := 9998) (em := em) (s := x.bare) h2
  have p1 : (part f1.type #[.string x.text, .bool x.bare] 0).run P w = .ok (.string x.text) w := by simp [part, a1]
  have p2 : (part f2.type #[.string x.text, .bool x.bare] 1).run P w = .ok (.bool x.bare) w := by simp [part, a2]
  simp only [keyV, Sem.run_bind, run_underlying hu, Result.andThen_ok]
  simp only [← Array.forIn_toList, List.forIn_cons, List.forIn_nil, o1, o2]
  by_cases n1 : f1.name = "_" <;> by_cases n2 : f2.name = "_" <;> simp [n1, n2, p1, p2, c1, c2]
variable {ρ : Operand → Value} {d : Option Tmp} {ty : TypeId} {pos : String} {af : Array Edge} {gd : Option (Nat × Bool)} {C : Gh}
theorem new_map {t : TypeId} (hH : Has w C) : ∃ g w', (execOp ρ ⟨d, .makeMap t none, ty, pos, af, gd⟩).run P w = .ok (.value (.map (some g))) w' ∧ Mp w' C g (mes []) 0 ∧ Ext w.heap.size w C w' C ∧ w.heap.size = g :=
  ⟨w.heap.size, w.alloc (.map #[] 0), by simp [execOp, Instr.makeMap], ⟨heap_alloc_new w _, fun o => hH.none o (Nat.le_refl _)⟩, alloc_ext hH _, rfl⟩
theorem r_lookupM {t e : TypeId} {g ck : Nat} {ks : List Line} {x : Line} {xm xk : Operand} {fs : Array Field} (ht : P.underlying t = some (.map T e)) (hu : P.underlying T = some (.struct fs)) (hck : ∀ w em, (Instr.checkKey em 10000 T (keyV x)).run P w = .ok () w)
    (heq : ∀ (w : World) (a : ByteArray) (b : Bool) (a' : ByteArray) (b' : Bool), (Op.equal T (.agg #[.string a, .bool b]) (.agg #[.string a', .bool b'])).run P w = .ok (decide ((⟨a, b⟩ : Line) = ⟨a', b'⟩)) w)
    (hz : ∀ w, (zeroValue e).run P w = .ok (.int .i64 0) w) (hm : Mp w C g (mes ks) ck) (hx : ρ xm = .map (some g)) (hk : ρ xk = .agg #[.string x.text, .bool x.bare]) :
    (execOp ρ ⟨d, .lookup t xm xk true, ty, pos, af, gd⟩).run P w = .ok (.value (.tuple #[.int .i64 (lk ks x), .bool (decide (x ∈ ks))])) w := by
  have hf := findKey_mes (w := w) hu heq x ks
  have hc := hck w
  simp only [keyV] at hf hc
  by_cases hxk : x ∈ ks
  · rw [if_pos hxk] at hf
    simp only [execOp, hx, hk, Instr.lookup, Sem.run_bind, run_underlying ht, Result.andThen_ok, MapKept.run_getObj_map hm.blk, hc, hf, lk]
    simp [hxk, hc, hf]
  · rw [if_neg hxk] at hf
    simp only [execOp, hx, hk, Instr.lookup, Sem.run_bind, run_underlying ht, Result.andThen_ok, MapKept.run_getObj_map hm.blk, hc, hf, lk]
    simp [hxk, hz, hc, hf]
theorem r_lenMap {t kt e : TypeId} {g ck : Nat} {ks : List Line} {x : Operand} (ht : P.underlying t = some (.map kt e)) (hm : Mp w C g (mes ks) ck) (hx : ρ x = .map (some g)) :
    (execOp ρ ⟨d, .call { callee := .builtin .len, args := #[x], argTypes := #[t] }, ty, pos, af, gd⟩).run P w = .ok (.value (.int .i64 ((ks.length : Nat) : Int))) w := by
  have hl : (mes ks).length = ks.length := mesF_len ks 0
  simp [execOp, resolve, invoke, builtin, Builtin.len_, run_underlying ht, hx, MapKept.run_getObj_map hm.blk, hl, goInt]
theorem new_mapUpdate {t e : TypeId} {g : Nat} {ks : List Line} {x : Line} {xm xk xv : Operand} {fs : Array Field} (ht : P.underlying t = some (.map T e)) (hu : P.underlying T = some (.struct fs)) (hck : ∀ w em, (Instr.checkKey em 10000 T (keyV x)).run P w = .ok () w)
    (heq : ∀ (w : World) (a : ByteArray) (b : Bool) (a' : ByteArray) (b' : Bool), (Op.equal T (.agg #[.string a, .bool b]) (.agg #[.string a', .bool b'])).run P w = .ok (decide ((⟨a, b⟩ : Line) = ⟨a', b'⟩)) w)
    (hm : Mp w C g (mes ks) ks.length) (hH : Has w C) (hn : x ∉ ks) (hx : ρ xm = .map (some g)) (hk : ρ xk = .agg #[.string x.text, .bool x.bare]) (hv : ρ xv = .int .i64 ((ks.length : Nat) : Int)) :
    ∃ w', (execOp ρ ⟨d, .mapUpdate t xm xk xv, ty, pos, af, gd⟩).run P w = .ok .skip w' ∧ Mut g w C w' C ∧ Mp w' C g (mes (ks ++ [x])) (ks ++ [x]).length := by
  have hf := findKey_mes (w := w) hu heq x ks
  have hc := hck w
  simp only [keyV] at hf hc
  have hsn := mesF_snoc x ks 0
  refine ⟨{ w with heap := w.heap.setIfInBounds g (.map (mes (ks ++ [x])).toArray (ks.length + 1)) }, ?_, ⟨⟨rfl, rfl, rfl, by simp, fun k _ hne => ?_⟩, fun b o v e => ?_, Gle.refl _, fun _ _ _ _ => rfl⟩, ⟨?_, hm.un⟩⟩
  · simp only [execOp, hx, hk, hv, Instr.mapUpdate, Sem.run_bind, run_underlying ht, Result.andThen_ok, MapKept.run_getObj_map hm.blk, hc, hf, hn, if_false, MapKept.run_setObj_map _ hm.blk, Sem.run_pure]
    congr 5
    simp only [mes]
    rw [hsn]
    simp [keyV]
  · have : k ≠ g := fun e => hne (by rw [e])
    simp [Array.getElem?_setIfInBounds, Ne.symm this]
  · by_cases hb : b = g
    · subst hb
      rw [hm.un o] at e
      cases e
    · rw [World.cell?_of_block (w := w) (by simp [Array.getElem?_setIfInBounds, Ne.symm hb])]
      exact hH b o v e
  · have := hm.lt
    simp [this]
end
section
variable {P : Program} {N : Nat} {Q : Exit → Fr → World → Prop} {T : Fr} {w : World} {ops : Array Oper} {o : Oper} {C : Gh} {t e K : TypeId} {d : Nat}
theorem FWl.makeMap {l : List Oper} (ho : o.op = .makeMap t none) (hd : o.dst = some d) (hw : wantedF ops T o = true) (hH : Has w C)
    (h : ∀ g w', Mp w' C g (mes []) ([] : List Line).length → Ext w.heap.size w C w' C → w.heap.size = g → FWl P N ops Q l (upd T d (.map (some g))) w') : FWl P N ops Q (o :: l) T w := by
  obtain ⟨dst, op, ty, pos, af, gd⟩ := o; cases ho
  obtain ⟨g, w', hr, h1, h2, h3⟩ := new_map (P := P) (ρ := ev T) (d := dst) (ty := ty) (pos := pos) (af := af) (gd := gd) (t := t) hH
  exact FWl.val d hd hw _ _ hr (h g w' h1 h2 h3)
theorem FWl.mapUpdate {l : List Oper} {g : Nat} {ks : List Line} {x : Line} {xm xk xv : Operand} {fs : Array Field} (ho : o.op = .mapUpdate t xm xk xv) (hd : o.dst = none) (hw : wantedF ops T o = true) (ht : P.underlying t = some (.map K e)) (hu : P.underlying K = some (.struct fs)) (hck : ∀ w em, (Instr.checkKey em 10000 K (keyV x)).run P w = .ok () w)
    (heq : ∀ (w : World) (a : ByteArray) (b : Bool) (a' : ByteArray) (b' : Bool), (Op.equal K (.agg #[.string a, .bool b]) (.agg #[.string a', .bool b'])).run P w = .ok (decide ((⟨a, b⟩ : Line) = ⟨a', b'⟩)) w)
    (hm : Mp w C g (mes ks) ks.length) (hH : Has w C) (hn : x ∉ ks) (hx : ev T xm = .map (some g)) (hk : ev T xk = .agg #[.string x.text, .bool x.bare]) (hv : ev T xv = .int .i64 ((ks.length : Nat) : Int))
    (h : ∀ w', Mut g w C w' C → Mp w' C g (mes (ks ++ [x])) (ks ++ [x]).length → FWl P N ops Q l T w') : FWl P N ops Q (o :: l) T w := by
  obtain ⟨dst, op, ty, pos, af, gd⟩ := o; cases ho
  obtain ⟨w', hr, h1, h2⟩ := new_mapUpdate (P := P) (ρ := ev T) (d := dst) (ty := ty) (pos := pos) (af := af) (gd := gd) ht hu hck heq hm hH hn hx hk hv
  exact FWl.unit hd hw _ hr (h w' h1 h2)
end
section
variable {P : Program} {ρ : Operand → Value} {d : Option Tmp} {ty : TypeId} {pos : String} {af : Array Edge} {gd : Option (Nat × Bool)} {w : World}
/-- One element cut out, with no room behind it. -/
theorem Sl.one {α : Type} {K : Kd α} {C : Gh} {A : Option Addr} {c : Nat} {xs : List α} {i : Nat} {y : α} (h : Sl K C A c xs) (hy : xs[i]? = some y) : Sl K C (A.map (·.add (i * K.sz))) 1 [y] := by
  obtain ⟨h1, h2⟩ := List.getElem?_eq_some_iff.1 hy
  have hd := h.drop i (c' := xs.length) (by simp)
  have ht := hd.take 1 (c' := 1) (by simp; omega)
  have e : (xs.drop i).take 1 = [y] := by rw [List.drop_eq_getElem_cons h1, h2]; rfl
  rwa [e] at ht
theorem r_sliceOne {A : Option Addr} {t e : TypeId} {n c sz i : Nat} {x xl xh xm : Operand} (hu : P.underlying t = some (.slice e)) (hs : ∀ w, (sizeOf e).run P w = .ok sz w) (hx : ρ x = .slice A n c) (hl : ρ xl = .int .i64 (i : Int)) (hh : ρ xh = .int .i64 ((i : Int) + 1)) (hm : ρ xm = .int .i64 ((i : Int) + 1)) (h3 : i + 1 ≤ c) :
    (execOp ρ ⟨d, .slice t x (some xl) (some xh) (some xm), ty, pos, af, gd⟩).run P w = .ok (.value (.slice (A.map (·.add (i * sz))) 1 1)) w := by
  rw [r_slice3 hu hs hx hl hh hm (by omega) (by omega) (by omega) (by omega), if_neg (by omega)]
  simp only [Int.toNat_natCast, show ((i : Int) + 1).toNat - i = 1 by omega]
theorem r_sliceTake {α : Type} {xs : List α} {A : Option Addr} {t e : TypeId} {n c sz : Nat} {h : Int} {x xh : Operand} (hu : P.underlying t = some (.slice e)) (hs : ∀ w, (sizeOf e).run P w = .ok sz w) (hx : ρ x = .slice A xs.length c) (hh : ρ xh = .int .i64 h) (hn : h = ((xs.take n).length : Int)) (hc : xs.length ≤ c) :
    (execOp ρ ⟨d, .slice t x none (some xh) none, ty, pos, af, gd⟩).run P w = .ok (.value (.slice A (xs.take n).length c)) w := by
  have hl : (xs.take n).length ≤ xs.length := by rw [List.length_take]; omega
  rw [r_sliceH hu hs hx hh (by omega) (by omega), map_add0, hn, Int.toNat_natCast]
  simp
/-- A place of an array behind a pointer. -/
theorem r_indexArrS {x ix : Operand} {t e : TypeId} {k : IntKind} {i : Int} {n g o sz o' : Nat} (hu : P.underlying t = some (.array n e)) (hs : ∀ w, (sizeOf e).run P w = .ok sz w) (hx : ρ x = .pointer (some ⟨g, o, none⟩)) (hi : ρ ix = .int k i) (h0 : 0 ≤ i) (h1 : i < n) (ho : o + i.toNat * sz = o') :
    (execOp ρ ⟨d, .indexAddr t x ix, ty, pos, af, gd⟩).run P w = .ok (.value (.pointer (some ⟨g, o', none⟩))) w := by
  subst ho
  simp [execOp, Instr.indexAt, asIntOf, underlying, hu, hx, hi, h0, h1, hs, Instr.sureAddr, add_lit]
theorem r_indexArrAt {x ix : Operand} {t e : TypeId} {k : IntKind} {i : Int} {n sz q q' : Nat} {A : Option Addr} (hu : P.underlying t = some (.array n e)) (hs : ∀ w, (sizeOf e).run P w = .ok sz w) (hA : A.isSome = true) (hx : ρ x = ptrAt A q) (hi : ρ ix = .int k i) (h0 : 0 ≤ i) (h1 : i < n) (ho : q + i.toNat * sz = q') :
    (execOp ρ ⟨d, .indexAddr t x ix, ty, pos, af, gd⟩).run P w = .ok (.value (ptrAt A q')) w := by
  subst ho
  obtain ⟨a, rfl⟩ := Option.isSome_iff_exists.1 hA
  simp only [ptrAt] at hx
  simp [execOp, Instr.indexAt, asIntOf, underlying, hu, hx, hi, h0, h1, hs, Instr.sureAddr, ptrAt, add_add']
end
end Go.Proofs.Ytlofomkhiefbmaa
