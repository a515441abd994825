/-
  What single operations do to a state: the table of types; operands; operations that read, reckon or make memory ('DoesR').
-/
import Derived.Test.YtkcpbahcnlhmjaaV3
namespace Go.Proofs.Ytkcpbahcnlhmjaa.V
open Go
set_option linter.unusedVariables false

/-! ### the table of types -/
inductive TyK where
  | no | leaf | str
  | sl (el : Nat)
  | st (offs : List (Nat × Nat))
  deriving Inhabited
structure TyI where
  k : TyK
  sz : Nat
  bytes : Nat
  zero : List Dat
instance : Inhabited TyI := ⟨⟨.no, 0, 0, []⟩⟩
def ty (tab : List TyI) (T : TypeId) : TyI := tab.getD T default
def TyI.ag (i : TyI) : Bool := match i.k with | .st _ => true | _ => false
def TyI.ok (i : TyI) : Bool := match i.k with | .no => false | _ => true

def zcell : Dat → Value → Bool
  | .lf (.int k n), .int k' m => decide (k = k') && decide (n = m)
  | .lf (.bool a), .bool b => a == b
  | .lf (.string a), .string b => decide (a.size = 0) && decide (b.size = 0)
  | .lf (.pointer none), .pointer none => true
  | .lf .nilFunc, .nilFunc => true
  | .sl _ [], .slice none 0 0 => true
  | _, _ => false
def zcells : List Dat → List Value → Bool
  | [], [] => true
  | d :: ds, v :: vs => zcell d v && zcells ds vs
  | _, _ => false
def kindOk (P : Program) : TyK → TypeDesc → Bool
  | .leaf, .bool | .leaf, .int _ | .leaf, .pointer _ | .leaf, .func .. | .str, .string => true
  | .sl e, .slice e' => decide (e = e')
  | .st offs, .struct fs => decide (fs.toList.map (fun f => (f.offset, f.type)) = offs) && fs.all fun f => decide (P.cellsOf f.type ≠ 0) && (P.info? f.type).isSome
  | _, _ => false
def tyOkB (P : Program) (T : Nat) (i : TyI) : Bool :=
  match i.k with
  | .no => true
  | k => match P.info? T, P.underlying T with
    | some f, some d => decide (f.size = i.sz) && decide (f.bytes = i.bytes) && decide (i.zero.length = i.sz) && kindOk P k d && (match f.zero with | some z => zcells i.zero z.cells.toList && ((z matches .agg _) == i.ag) | none => false)
    | _, _ => false
def tabOkB (P : Program) : Nat → List TyI → Bool
  | _, [] => true
  | T, i :: l => tyOkB P T i && tabOkB P (T + 1) l

/-- What the table says of a type is so. -/
structure TyOk (P : Program) (T : TypeId) (i : TyI) : Prop where
  ex : ∃ f d, P.info? T = some f ∧ P.underlying T = some d ∧ f.size = i.sz ∧ f.bytes = i.bytes ∧ kindOk P i.k d = true ∧ ∃ z, f.zero = some z ∧ zcells i.zero z.cells.toList = true ∧ (z matches .agg _) = i.ag
  zl : i.zero.length = i.sz
def TabOk (P : Program) (tab : List TyI) : Prop := ∀ T, (ty tab T).ok = true → TyOk P T (ty tab T)

theorem tyOk_of {P : Program} {T : Nat} {i : TyI} (h : tyOkB P T i = true) (hk : i.ok = true) : TyOk P T i := by
  unfold tyOkB at h
  have h' : (match P.info? T, P.underlying T with
    | some f, some d => decide (f.size = i.sz) && decide (f.bytes = i.bytes) && decide (i.zero.length = i.sz) && kindOk P i.k d && (match f.zero with | some z => zcells i.zero z.cells.toList && ((z matches .agg _) == i.ag) | none => false)
    | _, _ => false) = true := by
    cases hkk : i.k <;> simp_all [TyI.ok]
  cases h1 : P.info? T with
  | none => simp [h1] at h'
  | some f =>
    cases h2 : P.underlying T with
    | none => simp [h1, h2] at h'
    | some d =>
      simp only [h1, h2, Bool.and_eq_true, decide_eq_true_eq] at h'
      obtain ⟨⟨⟨⟨a, b⟩, zl⟩, c⟩, e⟩ := h'
      cases hz : f.zero with
      | none => simp [hz] at e
      | some z =>
        simp only [hz, Bool.and_eq_true, beq_iff_eq] at e
        exact ⟨⟨f, d, h1, h2, a, b, c, z, hz, e.1, e.2⟩, zl⟩

theorem tabOk_go {P : Program} : ∀ {l : List TyI} {k : Nat}, tabOkB P k l = true → ∀ j, (l.getD j default).ok = true → TyOk P (k + j) (l.getD j default)
  | [], k, _, j, h => by simp [TyI.ok, default] at h
  | i :: l, k, hb, 0, h => by
    simp only [tabOkB, Bool.and_eq_true] at hb
    exact tyOk_of hb.1 h
  | i :: l, k, hb, j + 1, h => by
    simp only [tabOkB, Bool.and_eq_true] at hb
    have := tabOk_go hb.2 j (by simpa using h)
    simp only [List.getD_cons_succ]
    rwa [Nat.add_assoc, Nat.add_comm 1] at this
theorem tabOk_of {P : Program} {tab : List TyI} (h : tabOkB P 0 tab = true) : TabOk P tab := fun T hT => by
  have := tabOk_go h T hT
  rwa [Nat.zero_add] at this

section
variable {P : Program} {T : TypeId} {i : TyI}
theorem TyOk.sizeOf (h : TyOk P T i) (w : World) : (sizeOf T).run P w = .ok i.sz w := by
  obtain ⟨f, d, h1, h2, h3, _⟩ := h.ex
  simp [Go.sizeOf, typeInfo, h1, h3]
theorem TyOk.under (h : TyOk P T i) (w : World) : ∃ d, P.underlying T = some d ∧ kindOk P i.k d = true ∧ (underlying T).run P w = .ok d w := by
  obtain ⟨f, d, h1, h2, h3, _, h4, _⟩ := h.ex
  exact ⟨d, h2, h4, by simp [Go.underlying, h2]⟩
theorem kindOk_st {offs : List (Nat × Nat)} {d : TypeDesc} (h : kindOk P (.st offs) d = true) : ∃ fs, d = .struct fs ∧ fs.toList.map (fun f => (f.offset, f.type)) = offs ∧ ∀ f ∈ fs, P.cellsOf f.type ≠ 0 ∧ (P.info? f.type).isSome = true := by
  cases d <;> simp [kindOk] at h
  rename_i fs
  refine ⟨fs, rfl, by simpa using h.1, fun f hf => ?_⟩
  have := h.2
  obtain ⟨k, hk, e⟩ := Array.mem_iff_getElem.1 hf
  have := this k hk
  rw [e] at this
  exact this
theorem kindOk_sl {e : Nat} {d : TypeDesc} (h : kindOk P (.sl e) d = true) : d = .slice e := by
  cases d <;> simp [kindOk] at h
  subst h; rfl
theorem kindOk_str {d : TypeDesc} (h : kindOk P .str d = true) : d = .string := by
  cases d <;> simp [kindOk] at h
  rfl
theorem TyOk.slice (h : TyOk P T i) {e : Nat} (hk : i.k = .sl e) : P.underlying T = some (.slice e) := by
  obtain ⟨f, d, h1, h2, h3, _, h4, _⟩ := h.ex
  rw [hk] at h4
  rw [h2, kindOk_sl h4]
theorem TyOk.string (h : TyOk P T i) (hk : i.k = .str) : P.underlying T = some .string := by
  obtain ⟨f, d, h1, h2, h3, _, h4, _⟩ := h.ex
  rw [hk] at h4
  rw [h2, kindOk_str h4]
theorem TyOk.isAgg (h : TyOk P T i) (w : World) : (isAgg T).run P w = .ok i.ag w := by
  obtain ⟨f, d, h1, h2, h3, _, h4, _⟩ := h.ex
  have : (Go.underlying T).run P w = .ok d w := by simp [Go.underlying, h2]
  simp only [Go.isAgg, Sem.run_bind, this, Result.andThen_ok]
  cases hk : i.k with
  | st offs => rw [hk] at h4; obtain ⟨fs, rfl, _⟩ := kindOk_st h4; simp [TyI.ag, hk]
  | sl e => rw [hk] at h4; rw [kindOk_sl h4]; simp [TyI.ag, hk]
  | str => rw [hk] at h4; rw [kindOk_str h4]; simp [TyI.ag, hk]
  | no => rw [hk] at h4; cases d <;> simp [kindOk] at h4
  | leaf => rw [hk] at h4; cases d <;> simp [kindOk] at h4 <;> simp [TyI.ag, hk]
end

theorem zcell_reps {w : World} {d : Dat} {v : Value} (h : zcell d v = true) : Reps true w [d] [v] [] := by
  unfold zcell at h
  split at h <;> simp at h
  · obtain ⟨rfl, rfl⟩ := h; exact .lf rfl .nil
  · subst h; exact .lf rfl .nil
  · rename_i a b
    have : a = b := by rw [h.1, h.2]
    subst this; exact .lf rfl .nil
  · exact .lf rfl .nil
  · exact .lf rfl .nil
  · exact .nl .nil
theorem zcells_reps {w : World} : ∀ {ds : List Dat} {vs : List Value}, zcells ds vs = true → Reps true w ds vs []
  | [], [], _ => .nil
  | d :: ds, v :: vs, h => by
    simp only [zcells, Bool.and_eq_true] at h
    have h1 := zcell_reps (w := w) h.1
    have h2 := zcells_reps (w := w) h.2
    exact h1.append h2
  | [], _ :: _, h => by simp [zcells] at h
  | _ :: _, [], h => by simp [zcells] at h

/-- A zero cell. -/
def zvc : Dat → VC
  | .sl n [] => .nl n
  | d => .d d

/-! ### operands -/
inductive CRel : Value → TV → Prop
  | lf {v : Value} (h : sca v = true) : CRel v ⟨false, [.d (.lf v)]⟩
  | nil (n : Nat) : CRel (.slice none 0 0) ⟨false, [.nl n]⟩
  | ag {arr : Array Value} {ds : List Dat} (h : zcells ds arr.toList = true) : CRel (.agg arr) ⟨true, ds.map zvc⟩

def Ev (t : List Slot) : Operand → TV → Prop
  | .tmp i, x => getT t i = .t x
  | .const v, x => CRel v x
  | .func f, x => x = ⟨false, [.cl f []]⟩
  | .global _, _ => False

section
variable {w0 : World} {M0 : Nat → Prop} {A0 : Cx} {h : Heap} {w : World} {locs : Locs} {RO : Nat → Prop} {t : List Slot} {a : Act}

theorem vrel_lf {v : Value} (hs : sca v = true) : VRel locs h w RO (.d (.lf v)) v := ⟨[], .lf hs .nil, by simp⟩
theorem vrel_lf_eq {v u : Value} (hr : VRel locs h w RO (.d (.lf v)) u) : u = v ∧ sca v = true := by
  obtain ⟨F, hr, _⟩ := hr
  obtain ⟨e, hs, _⟩ := reps_one_lf hr
  exact ⟨e, hs⟩
theorem reps_vrels {ds : List Dat} {vs : List Value} {F : List Nat} {wr : Bool} (hr : Reps wr w ds vs F) (hF : ∀ b ∈ F, RO b) : All2 (VRel locs h w RO) (ds.map .d) vs := by
  refine All2.of_get (by rw [hr.length, List.length_map]) fun i x hx => ?_
  rw [List.getElem?_map] at hx
  obtain ⟨d, hd, rfl⟩ := Option.map_eq_some_iff.1 hx
  obtain ⟨v, G, hv, hg, hG⟩ := hr.ro.one hd
  exact ⟨v, hv, G, hg, fun b hb => hF b (hG b hb)⟩

theorem TRel.single {x : VC} {v : Value} : TRel locs h w RO ⟨false, [x]⟩ v ↔ VRel locs h w RO x v := by
  simp only [TRel]
  constructor
  · intro hh; cases hh with | cons h _ => exact h
  · intro hh; exact .cons hh .nil

theorem zvc_rel {d : Dat} {v : Value} (hz : zcell d v = true) : VRel locs h w RO (zvc d) v := by
  have hr := zcell_reps (w := w) hz
  unfold zvc
  split
  · unfold zcell at hz
    split at hz <;> simp_all [VRel]
  · exact ⟨[], hr.ro, by simp⟩
theorem zvcs_rel : ∀ {ds : List Dat} {vs : List Value}, zcells ds vs = true → All2 (VRel locs h w RO) (ds.map zvc) vs
  | [], [], _ => .nil
  | d :: ds, v :: vs, hz => by
    simp only [zcells, Bool.and_eq_true] at hz
    exact .cons (zvc_rel hz.1) (zvcs_rel hz.2)
  | [], _ :: _, hz => by simp [zcells] at hz
  | _ :: _, [], hz => by simp [zcells] at hz
theorem zvc_refs (d : Dat) : (zvc d).refs = [] := by
  unfold zvc
  split <;> rfl

theorem crel {v : Value} {x : TV} (hc : CRel v x) : TRel locs h w RO x v := by
  cases hc with
  | lf hs => exact TRel.single.2 (vrel_lf hs)
  | nil n => exact TRel.single.2 rfl
  | ag hz => exact ⟨_, rfl, zvcs_rel hz⟩

theorem crel_refs {v : Value} {x : TV} (hc : CRel v x) : x.refs = [] := by
  cases hc with
  | lf hs => rfl
  | nil n => rfl
  | ag hz => simp only [TV.refs, List.flatMap_map, zvc_refs]; simp

theorem Tmps.ev (hm : Tmps locs h w RO t a) {x : Operand} {y : TV} (he : Ev t x y) : TRel locs h w RO y (a.eval x) ∧ ∀ o ∈ y.refs, h o ≠ .gone := by
  cases x with
  | tmp i =>
    simp only [Ev] at he
    have h1 := hm.2.2.1 i
    have h2 := hm.2.2.2 i
    rw [he] at h1 h2
    exact ⟨h1, h2⟩
  | const v => exact ⟨crel he, by rw [crel_refs he]; simp⟩
  | func f =>
    simp only [Ev] at he
    subst he
    exact ⟨TRel.single.2 ⟨#[], rfl, .nil⟩, by simp [TV.refs, VC.refs]⟩
  | global g => exact he.elim

theorem Tmps.ev1 (hm : Tmps locs h w RO t a) {x : Operand} {y : VC} (he : Ev t x ⟨false, [y]⟩) : VRel locs h w RO y (a.eval x) ∧ ∀ o ∈ y.refs, h o ≠ .gone := by
  obtain ⟨h1, h2⟩ := hm.ev he
  exact ⟨TRel.single.1 h1, fun o ho => h2 o (by simp [TV.refs, ho])⟩
theorem Tmps.evlf (hm : Tmps locs h w RO t a) {x : Operand} {v : Value} (he : Ev t x ⟨false, [.d (.lf v)]⟩) : a.eval x = v ∧ sca v = true := vrel_lf_eq (hm.ev1 he).1
end

/-! ### operations -/
def updAll (h : Heap) : List (Nat × VO) → Heap
  | [] => h
  | (k, o) :: l => updAll (upd h k o) l

/-- The operation yields a value 'r' and new objects; nothing that was there turns. -/
def DoesR (P : Program) (o : Oper) (t : List Slot) (h : Heap) (r : Slot) (news : List (Nat × VO)) : Prop :=
  ∀ (w0 : World) (M0 : Nat → Prop) (A0 : Cx) (locs : Locs) (RO : Nat → Prop) (a : Act) (w : World), Good w0 M0 A0 h w locs RO → Tmps locs h w RO t a →
    ∀ (K : Act → World → Prop) (Q : Exit → Act → World → Prop),
      (∀ v w' locs', Touch h w locs (updAll h news) w' locs' RO (· ∈ news.map (·.1)) (fun _ => False) (fun _ => False) → SRel locs' (updAll h news) w' RO r v → (∀ o ∈ r.refs, updAll h news o ≠ .gone) → K (a.put o.dst v) w') →
      o.wp P a w K Q

/-- An operation that reads or reckons. -/
def Yield (P : Program) (o : Oper) (t : List Slot) (h : Heap) (r : Slot) : Prop :=
  ∀ (w0 : World) (M0 : Nat → Prop) (A0 : Cx) (locs : Locs) (RO : Nat → Prop) (a : Act) (w : World), Good w0 M0 A0 h w locs RO → Tmps locs h w RO t a →
    ∃ v, (execOp a.eval o).run P w = .ok (.value v) w ∧ SRel locs h w RO r v ∧ ∀ o ∈ r.refs, h o ≠ .gone

theorem touch_none {h : Heap} {w : World} {locs : Locs} {RO : Nat → Prop} : Touch h w locs h w locs RO (· ∈ ([] : List Nat)) (fun _ => False) (fun _ => False) where
  kept := Kept.refl _ _
  only b hb := hb.elim
  same j hj := ⟨rfl, rfl⟩
  obj j hj := by simp at hj
  cells j hj := by simp at hj
  live j hj := by simp at hj
  nodup j hj := by simp at hj
  foot j hj := by simp at hj
  disj j l hj := by simp at hj
  step j hj := by simp at hj
  sub o ho := ho.elim
  clean _ _ _ _ _ _ _ := not_false
  fresh o ho := by simp at ho
  killed o ho := ho.elim

theorem wp_of_value {P : Program} {o : Oper} {a : Act} {w w' : World} {v : Value} {K : Act → World → Prop} {Q : Exit → Act → World → Prop}
    (hr : (execOp a.eval o).run P w = .ok (.value v) w') (hk : K (a.put o.dst v) w') : o.wp P a w K Q := by
  simp only [Oper.wp, hr, Oper.upon]; exact hk
theorem wp_of_skip {P : Program} {o : Oper} {a : Act} {w w' : World} {K : Act → World → Prop} {Q : Exit → Act → World → Prop}
    (hr : (execOp a.eval o).run P w = .ok .skip w') (hk : K (a.put o.dst undef) w') : o.wp P a w K Q := by
  simp only [Oper.wp, hr, Oper.upon]; exact hk

theorem Yield.does {P : Program} {o : Oper} {t : List Slot} {h : Heap} {r : Slot} (hy : Yield P o t h r) : DoesR P o t h r [] := by
  intro w0 M0 A0 locs RO a w hg hm K Q hk
  obtain ⟨v, hr, hs, hl⟩ := hy w0 M0 A0 locs RO a w hg hm
  exact wp_of_value hr (hk v w locs touch_none hs hl)

section
variable {P : Program} {o : Oper} {t : List Slot} {h : Heap} {tab : List TyI}

theorem y_move {x : Operand} {y : TV} (ho : o.op = .move x ∨ o.op = .assign x) (he : Ev t x y) : Yield P o t h (.t y) := by
  intro w0 M0 A0 locs RO a w hg hm
  obtain ⟨h1, h2⟩ := hm.ev he
  refine ⟨a.eval x, ?_, h1, h2⟩
  rcases ho with ho | ho <;> simp [execOp, ho]

theorem y_pick {c x y : Operand} {b : Bool} {u : TV} (ho : o.op = .pick c x y) (hc : Ev t c ⟨false, [.d (.lf (.bool b))]⟩) (he : Ev t (if b then x else y) u) : Yield P o t h (.t u) := by
  intro w0 M0 A0 locs RO a w hg hm
  obtain ⟨h1, h2⟩ := hm.ev he
  have hb := (hm.evlf hc).1
  refine ⟨a.eval (if b then x else y), ?_, h1, h2⟩
  cases b <;> simp [execOp, ho, hb, asBool]

theorem eqGuard_sca {op : BinOp} {T : TypeId} {x y : Operand} {u v : Value} (hu : sca u = true) (w : World) : (eqGuard op T x y u v).run P w = .ok () w := by
  unfold sca at hu
  split at hu <;> first
    | (cases op <;> rfl)
    | cases hu

theorem y_bin {op : BinOp} {T T' : TypeId} {x y : Operand} {u v r : Value} (ho : o.op = .binOp op T x y T') (hx : Ev t x ⟨false, [.d (.lf u)]⟩) (hy : Ev t y ⟨false, [.d (.lf v)]⟩)
    (hr : ∀ w, (binOp op T u v).run P w = .ok r w) (hs : sca r = true) : Yield P o t h (.t ⟨false, [.d (.lf r)]⟩) := by
  intro w0 M0 A0 locs RO a w hg hm
  obtain ⟨e1, s1⟩ := hm.evlf hx
  obtain ⟨e2, s2⟩ := hm.evlf hy
  refine ⟨r, ?_, TRel.single.2 (vrel_lf hs), by simp [Slot.refs, TV.refs, VC.refs]⟩
  simp [execOp, ho, e1, e2, eqGuard_sca s1, hr]

theorem all2_lfs {w : World} {locs : Locs} {RO : Nat → Prop} : ∀ {us : List Value} {vs : List Value}, All2 (VRel locs h w RO) (us.map fun v => .d (.lf v)) vs → vs = us
  | [], _, h => by cases h; rfl
  | u :: us, _, h => by
    cases h with
    | cons h1 h2 => rw [(vrel_lf_eq h1).1, all2_lfs h2]

/-- '==' or '!=' of structs of scalars. -/
theorem y_eqs {op : BinOp} {T T' : TypeId} {x y : Operand} {us vs : List Value} {r : Bool} (ho : o.op = .binOp op T x y T') (hx : Ev t x ⟨true, us.map fun v => .d (.lf v)⟩)
    (hy : Ev t y ⟨true, vs.map fun v => .d (.lf v)⟩) (hr : ∀ w, (do eqGuard op T x y (.agg us.toArray) (.agg vs.toArray); binOp op T (.agg us.toArray) (.agg vs.toArray) : Sem Value).run P w = .ok (.bool r) w) :
    Yield P o t h (.t ⟨false, [.d (.lf (.bool r))]⟩) := by
  intro w0 M0 A0 locs RO a w hg hm
  obtain ⟨arr, e1, s1⟩ := (hm.ev hx).1
  obtain ⟨brr, e2, s2⟩ := (hm.ev hy).1
  have e3 : arr = us.toArray := by rw [← all2_lfs s1]
  have e4 : brr = vs.toArray := by rw [← all2_lfs s2]
  subst e3; subst e4
  refine ⟨.bool r, ?_, TRel.single.2 (vrel_lf rfl), by simp [Slot.refs, TV.refs, VC.refs]⟩
  have key : execOp a.eval o = (do let v ← (do eqGuard op T x y (.agg us.toArray) (.agg vs.toArray); binOp op T (.agg us.toArray) (.agg vs.toArray)); pure (.value v)) := by
    simp only [execOp, ho, e1, e2]
  rw [key, Sem.run_bind, hr w]
  rfl

theorem y_un {op : UnOp} {T : TypeId} {x : Operand} {u r : Value} (ho : o.op = .unOp op T x) (hx : Ev t x ⟨false, [.d (.lf u)]⟩)
    (hr : ∀ w, (Op.unary op u).run P w = .ok r w) (hs : sca r = true) : Yield P o t h (.t ⟨false, [.d (.lf r)]⟩) := by
  intro w0 M0 A0 locs RO a w hg hm
  obtain ⟨e1, s1⟩ := hm.evlf hx
  refine ⟨r, ?_, TRel.single.2 (vrel_lf hs), by simp [Slot.refs, TV.refs, VC.refs]⟩
  simp [execOp, ho, e1, hr]

theorem y_conv {T T' : TypeId} {x : Operand} {u r : Value} (ho : o.op = .convert T T' x) (hx : Ev t x ⟨false, [.d (.lf u)]⟩)
    (hr : ∀ w, (convert T T' u).run P w = .ok r w) (hs : sca r = true) : Yield P o t h (.t ⟨false, [.d (.lf r)]⟩) := by
  intro w0 M0 A0 locs RO a w hg hm
  obtain ⟨e1, s1⟩ := hm.evlf hx
  refine ⟨r, ?_, TRel.single.2 (vrel_lf hs), by simp [Slot.refs, TV.refs, VC.refs]⟩
  simp [execOp, ho, e1, hr]

/-- A byte of a string. -/
theorem y_byte {T : TypeId} {x i : Operand} {s : ByteArray} {k : IntKind} {n : Int} (hT : TabOk P tab) (ho : o.op = .index T x i) (hk : (ty tab T).k = .str) (hx : Ev t x ⟨false, [.d (.lf (.string s))]⟩)
    (hi : Ev t i ⟨false, [.d (.lf (.int k n))]⟩) (h0 : 0 ≤ n) (h1 : n.toNat < s.size) : Yield P o t h (.t ⟨false, [.d (.lf (.int .u8 (s[n.toNat]'h1).toNat))]⟩) := by
  intro w0 M0 A0 locs RO a w hg hm
  obtain ⟨e1, s1⟩ := hm.evlf hx
  obtain ⟨e2, s2⟩ := hm.evlf hi
  refine ⟨_, ?_, TRel.single.2 (vrel_lf rfl), by simp [Slot.refs, TV.refs, VC.refs]⟩
  have hu : P.underlying T = some .string := (hT T (by simp [TyI.ok, hk])).string hk
  simp [execOp, ho, e1, e2, Instr.index, asIntOf, Go.underlying, hu, h0, h1]

theorem y_slen {c : Call} {T : TypeId} {x : Operand} {s : ByteArray} (hT : TabOk P tab) (ho : o.op = .call c) (hc : c = { callee := .builtin .len, args := #[x], argTypes := #[T] }) (hk : (ty tab T).k = .str)
    (hx : Ev t x ⟨false, [.d (.lf (.string s))]⟩) : Yield P o t h (.t ⟨false, [.d (.lf (.int .i64 s.size))]⟩) := by
  intro w0 M0 A0 locs RO a w hg hm
  obtain ⟨e1, s1⟩ := hm.evlf hx
  refine ⟨_, ?_, TRel.single.2 (vrel_lf rfl), by simp [Slot.refs, TV.refs, VC.refs]⟩
  have hu : P.underlying T = some .string := (hT T (by simp [TyI.ok, hk])).string hk
  subst hc
  simp [execOp, ho, resolve, invoke, builtin, e1, Builtin.len_, Go.underlying, hu, goInt]

/-- The length of what is a slice: a row's view, frozen data, a slice in an element. -/
inductive Len (h : Heap) : VC → Nat → Prop
  | sr {k g off len room n dp ver : Nat} {es : List (List Dat)} {dp' : Bool} (hh : h k = .row n es dp' g ver) : Len h (.sr k g off len room) len
  | d {n : Nat} {es : List (List Dat)} : Len h (.d (.sl n es)) es.length
  | nl {n : Nat} : Len h (.nl n) 0

theorem Len.val {w : World} {locs : Locs} {RO : Nat → Prop} {x : VC} {k : Nat} {v : Value} (hl : Len h x k) (hv : VRel locs h w RO x v) : ∃ ad c, v = .slice ad k c := by
  cases hl with
  | sr hh =>
    obtain ⟨n, es, dp, g0, ver, hc, hle, hone, hp⟩ := hv
    rw [hh] at hc
    injection hc with a1 a2 a3 a4 a5
    rcases hp a4 with ⟨_, e1, _, e2⟩ | ⟨_, cap, e, _⟩
    · subst e1; exact ⟨_, _, e2⟩
    · exact ⟨_, _, e⟩
  | d =>
    obtain ⟨F, hr, _⟩ := hv
    cases hr with
    | nl r => exact ⟨_, _, rfl⟩
    | sl hb hc he hs hw g r => exact ⟨_, _, rfl⟩
    | em h r => exact ⟨_, _, rfl⟩
  | nl => cases hv; exact ⟨_, _, rfl⟩

theorem y_len {c : Call} {T : TypeId} {x : Operand} {y : VC} {e n : Nat} (hT : TabOk P tab) (ho : o.op = .call c) (hc : c = { callee := .builtin .len, args := #[x], argTypes := #[T] }) (hk : (ty tab T).k = .sl e)
    (hx : Ev t x ⟨false, [y]⟩) (hl : Len h y n) : Yield P o t h (.t ⟨false, [.d (.lf (.int .i64 n))]⟩) := by
  intro w0 M0 A0 locs RO a w hg hm
  obtain ⟨ad, cc, e1⟩ := hl.val (hm.ev1 hx).1
  refine ⟨_, ?_, TRel.single.2 (vrel_lf rfl), by simp [Slot.refs, TV.refs, VC.refs]⟩
  have hu := (hT T (by simp [TyI.ok, hk])).slice hk
  subst hc
  simp [execOp, ho, resolve, invoke, builtin, e1, Builtin.len_, Go.underlying, hu, goInt]
end

end Go.Proofs.Ytkcpbahcnlhmjaa.V
