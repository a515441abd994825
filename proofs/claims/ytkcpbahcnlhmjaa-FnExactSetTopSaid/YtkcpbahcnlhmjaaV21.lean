/-
  States of the walk as overlays: temporaries 'tl', heap 'hp'; the walk's steps over them.
-/
import Derived.Test.YtkcpbahcnlhmjaaV20
namespace Go.Proofs.Ytkcpbahcnlhmjaa.V
open Go
set_option linter.unusedVariables false
set_option linter.unusedSimpArgs false

def lookT : List (Nat × Slot) → Nat → Slot
  | [], _ => .dead
  | (j, x) :: l, i => match Nat.beq i j with
    | true => x
    | false => lookT l i
def tl (ov : List (Nat × Slot)) (n : Nat) : List Slot := (List.range n).map (lookT ov)
def hp : List (Nat × VO) → Heap
  | [], _ => .gone
  | (j, x) :: l, i => match Nat.beq i j with
    | true => x
    | false => hp l i
abbrev mk (ov : List (Nat × Slot)) (n : Nat) (hv : List (Nat × VO)) : St := ⟨tl ov n, hp hv⟩

theorem tl_len {ov : List (Nat × Slot)} {n : Nat} : (tl ov n).length = n := by simp [tl]
theorem getT_tl {ov : List (Nat × Slot)} {n i : Nat} : getT (tl ov n) i = if i < n then lookT ov i else .dead := by
  simp only [getT, tl, List.getD_eq_getElem?_getD, List.getElem?_map]
  by_cases h : i < n
  · simp [h]
  · rw [List.getElem?_eq_none (by simpa using Nat.not_lt.1 h)]; simp [h]
theorem eg {ov : List (Nat × Slot)} {n i : Nat} {y : Slot} (hb : Nat.blt i n = true) (h : lookT ov i = y) : getT (tl ov n) i = y := by
  have hl : i < n := by simpa using hb
  rw [getT_tl, if_pos hl, h]
theorem e {ov : List (Nat × Slot)} {n i : Nat} {y : TV} (hb : Nat.blt i n = true) (h : lookT ov i = .t y) : Ev (tl ov n) (.tmp i) y := eg hb h
theorem ec {t : List Slot} {v : Value} (h : sca v = true) : Ev t (.const v) ⟨false, [.d (.lf v)]⟩ := CRel.lf h
theorem en {t : List Slot} (n : Nat) : Ev t (.const (.slice none 0 0)) ⟨false, [.nl n]⟩ := CRel.nil n
theorem ea {t : List Slot} {arr : Array Value} {ds : List Dat} (h : zcells ds arr.toList = true) : Ev t (.const (.agg arr)) ⟨true, ds.map zvc⟩ := CRel.ag h
theorem beq_iff {i j : Nat} : Nat.beq i j = true ↔ i = j := ⟨Nat.eq_of_beq_eq_true, fun h => by subst h; exact Nat.beq_refl i⟩
theorem lookT_cons {ov : List (Nat × Slot)} {i j : Nat} {x : Slot} : lookT ((j, x) :: ov) i = if i = j then x else lookT ov i := by
  simp only [lookT]
  cases hb : Nat.beq i j with
  | true => rw [if_pos (beq_iff.1 hb)]
  | false => rw [if_neg]; intro h; rw [beq_iff.2 h] at hb; cases hb
theorem hp_cons {ov : List (Nat × VO)} {i j : Nat} {x : VO} : hp ((j, x) :: ov) i = if i = j then x else hp ov i := by
  simp only [hp]
  cases hb : Nat.beq i j with
  | true => rw [if_pos (beq_iff.1 hb)]
  | false => rw [if_neg]; intro h; rw [beq_iff.2 h] at hb; cases hb
theorem put_tl {ov : List (Nat × Slot)} {n d : Nat} {x : Slot} : putT (tl ov n) (some d) x = tl ((d, x) :: ov) n := by
  apply List.ext_getElem?
  intro i
  simp only [putT, tl, List.getElem?_set, List.length_map, List.length_range, List.getElem?_map]
  by_cases hi : i < n
  · simp only [List.getElem?_range hi, Option.map_some, lookT_cons]
    by_cases e : d = i
    · subst e; simp [hi]
    · rw [if_neg e, if_neg (fun h => e h.symm)]
  · by_cases e : d = i
    · subst e; simp [hi]
    · simp only [if_neg e]; rw [List.getElem?_eq_none (by simpa using hi)]; rfl
def puT (ov : List (Nat × Slot)) : Option Nat → Slot → List (Nat × Slot)
  | some d, x => (d, x) :: ov
  | none, _ => ov
theorem put_puT {ov : List (Nat × Slot)} {n : Nat} {d : Option Nat} {x : Slot} : putT (tl ov n) d x = tl (puT ov d x) n := by
  cases d with
  | none => rfl
  | some d => exact put_tl
theorem upd_hp {hv : List (Nat × VO)} {k : Nat} {o : VO} : upd (hp hv) k o = hp ((k, o) :: hv) := by
  funext j; rw [hp_cons]; rfl
def updsH : List (Nat × VO) → List (Nat × VO) → List (Nat × VO)
  | hv, [] => hv
  | hv, p :: l => updsH (p :: hv) l
theorem updAll_hp : ∀ {E hv : List (Nat × VO)}, updAll (hp hv) E = hp (updsH hv E)
  | [], hv => rfl
  | (k, o) :: E, hv => by simp only [updAll, updsH]; rw [upd_hp]; exact updAll_hp

section
variable {P : Program} {ops : Array Oper} {K : St → Prop} {o : Oper} {l : List Oper} {ov ov' : List (Nat × Slot)} {n : Nat} {hv hv' : List (Nat × VO)}

/-- A reading or reckoning operation. -/
theorem sy {d : Nat} (r : Slot) (hy : Yield P o (tl ov n) (hp hv) r) (hg : o.guard = none) (hd : o.dst = some d) (hk : OpsL P ops l (mk ((d, r) :: ov) n hv) K) : OpsL P ops (o :: l) (mk ov n hv) K :=
  s_y hy hg (by rw [hd]; exact put_tl) hk
/-- An operation that makes an object. -/
theorem sr {d : Nat} (k : Nat) (r : Slot) (x : VO) (hy : DoesR P o (tl ov n) (hp hv) r [(k, x)]) (hg : o.guard = none) (hd : o.dst = some d) (hk : OpsL P ops l (mk ((d, r) :: ov) n ((k, x) :: hv)) K) : OpsL P ops (o :: l) (mk ov n hv) K :=
  s_r hy hg (by rw [hd]; exact put_tl) upd_hp hk
/-- Any operation whose outcome is told. -/
theorem sd {d : Option Nat} {E : List (Nat × VO)} (r : Slot) (hy : Does P o (mk ov n hv) ⟨putT (tl ov n) o.dst r, updAll (hp hv) E⟩) (hg : o.guard = none) (hd : o.dst = d) (ho : puT ov d r = ov') (hh : updsH hv E = hv') (hk : OpsL P ops l (mk ov' n hv') K) :
    OpsL P ops (o :: l) (mk ov n hv) K :=
  s_d hy hg (by rw [hd, put_puT, ho]) (by rw [updAll_hp, hh]) hk

/-! ### letting go -/
def AllLook (ov : List (Nat × Slot)) : List (Nat × Slot) → Prop
  | [] => True
  | (i, x) :: l => lookT ov i = x ∧ AllLook ov l
def AllLookH (hv : List (Nat × VO)) : List (Nat × VO) → Prop
  | [] => True
  | (i, x) :: l => hp hv i = x ∧ AllLookH hv l
def isThere (hv : List (Nat × VO)) (k : Nat) : Bool := match hp hv k with
  | .gone => false
  | _ => true
def liveOk (ov : List (Nat × Slot)) (hv : List (Nat × VO)) : Bool :=
  ov.all (fun p => p.2.refs.all (isThere hv)) && hv.all fun p => match p.2 with
    | .var cs => cs.all fun c => c.refs.all (isThere hv)
    | _ => true

theorem AllLook.get : ∀ {ov' : List (Nat × Slot)}, AllLook ov ov' → ∀ i, lookT ov' i = lookT ov i ∨ lookT ov' i = .dead
  | [], _, i => .inr rfl
  | (j, x) :: l, h, i => by
    rw [lookT_cons]
    by_cases e : i = j
    · subst e; rw [if_pos rfl]; exact .inl h.1.symm
    · rw [if_neg e]; exact AllLook.get h.2 i
theorem AllLookH.get : ∀ {hv' : List (Nat × VO)}, AllLookH hv hv' → ∀ i, hp hv' i = hp hv i ∨ hp hv' i = .gone
  | [], _, i => .inr rfl
  | (j, x) :: l, h, i => by
    rw [hp_cons]
    by_cases e : i = j
    · subst e; rw [if_pos rfl]; exact .inl h.1.symm
    · rw [if_neg e]; exact AllLookH.get h.2 i
theorem lookT_mem : ∀ {ov : List (Nat × Slot)} {i : Nat}, lookT ov i = .dead ∨ ∃ p ∈ ov, p.2 = lookT ov i
  | [], i => .inl rfl
  | (j, x) :: l, i => by
    rw [lookT_cons]
    by_cases e : i = j
    · rw [if_pos e]; exact .inr ⟨(j, x), by simp, rfl⟩
    · rw [if_neg e]
      rcases lookT_mem (ov := l) (i := i) with h | ⟨p, hp, h⟩
      · exact .inl h
      · exact .inr ⟨p, by simp [hp], h⟩
theorem hp_mem : ∀ {hv : List (Nat × VO)} {i : Nat}, hp hv i = .gone ∨ ∃ p ∈ hv, p.2 = hp hv i
  | [], i => .inl rfl
  | (j, x) :: l, i => by
    rw [hp_cons]
    by_cases e : i = j
    · rw [if_pos e]; exact .inr ⟨(j, x), by simp, rfl⟩
    · rw [if_neg e]
      rcases hp_mem (hv := l) (i := i) with h | ⟨p, hp, h⟩
      · exact .inl h
      · exact .inr ⟨p, by simp [hp], h⟩
theorem isThere_ne {k : Nat} (h : isThere hv k = true) : hp hv k ≠ .gone := by
  intro e; simp [isThere, e] at h

theorem weak_of (h1 : AllLook ov ov') (h2 : AllLookH hv hv') (h3 : liveOk ov' hv' = true) : Weak (mk ov n hv) (mk ov' n hv') := by
  simp only [liveOk, Bool.and_eq_true, List.all_eq_true] at h3
  refine ⟨by simp [tl_len], fun i => ?_, fun k => h2.get k, fun i o ho => ?_, fun k cs hk x hx o ho => ?_⟩
  · show getT (tl ov' n) i = getT (tl ov n) i ∨ _
    rw [getT_tl, getT_tl]
    split
    · exact h1.get i
    · exact .inl rfl
  · have ho' : o ∈ (getT (tl ov' n) i).refs := ho
    rw [getT_tl] at ho'
    split at ho'
    · rcases lookT_mem (ov := ov') (i := i) with h | ⟨p, hp, h⟩
      · rw [h] at ho'; simp [Slot.dead, Slot.refs, TV.refs, VC.refs] at ho'
      · rw [← h] at ho'
        exact isThere_ne (h3.1 p hp o ho')
    · simp [Slot.dead, Slot.refs, TV.refs, VC.refs] at ho'
  · have hk' : hp hv' k = .var cs := hk
    rcases hp_mem (hv := hv') (i := k) with h | ⟨p, hp, h⟩
    · rw [h] at hk'; cases hk'
    · have := h3.2 p hp
      rw [h, hk'] at this
      simp only [List.all_eq_true] at this
      exact isThere_ne (this x hx o ho)

theorem v_let {c : Code} {Q : Exit → St → Prop} (h1 : AllLook ov ov') (h2 : AllLookH hv hv') (h3 : liveOk ov' hv' = true) (h : VWp P c Q (mk ov' n hv')) : VWp P c Q (mk ov n hv) := v_weak (weak_of h1 h2 h3) h

def enumT : Nat → List Slot → List (Nat × Slot)
  | _, [] => []
  | i, x :: l => (i, x) :: enumT (i + 1) l
theorem lookT_enum : ∀ {l : List Slot} {i j : Nat}, lookT (enumT i l) (i + j) = l.getD j .dead
  | [], i, j => by simp [enumT, lookT]
  | x :: l, i, 0 => by simp [enumT, lookT_cons]
  | x :: l, i, j + 1 => by
    simp only [enumT, lookT_cons]
    rw [if_neg (by omega)]
    have := lookT_enum (l := l) (i := i + 1) (j := j)
    rw [Nat.add_assoc, Nat.add_comm 1] at this
    rw [this]; simp
theorem hp_news : ∀ {l : List VO} {i j : Nat}, hp (newsAt i l) j = if i ≤ j then l.getD (j - i) .gone else .gone
  | [], i, j => by simp [newsAt, hp]
  | x :: l, i, j => by
    simp only [newsAt, hp_cons]
    rw [hp_news]
    by_cases e : j = i
    · subst e; simp
    · rw [if_neg e]
      by_cases h : i ≤ j
      · have e1 : j - i = (j - (i + 1)) + 1 := by omega
        rw [if_pos h, if_pos (by omega), e1]; simp
      · rw [if_neg h, if_neg (by omega)]

theorem init_mk {fn : Func} {args : List Arg} (hl : (injA 0 args).length ≤ fn.ntmps) (hl2 : (injA 0 args).length = args.length) : initSt fn args = mk (enumT 0 (injA 0 args)) fn.ntmps (newsAt 0 (objsA args)) := by
  unfold initSt mk
  congr 1
  · apply List.ext_getElem
    · simp [tl_len]; omega
    · intro i h1 h2
      rw [tl_len] at h2
      have e1 := lookT_enum (l := injA 0 args) (i := 0) (j := i)
      rw [Nat.zero_add] at e1
      simp only [tl, List.getElem_map, List.getElem_range, e1, List.getElem_append, List.getD_eq_getElem?_getD]
      split
      · rename_i h; rw [List.getElem?_eq_getElem h]; rfl
      · rename_i h; rw [List.getElem?_eq_none (by omega)]; simp
  · funext j
    rw [hp_news]
    simp [heapOf]

theorem injA_len : ∀ {args : List Arg} {k : Nat}, (injA k args).length = args.length
  | [], _ => rfl
  | .ro _ :: l, k => by simp [injA, injA_len]
  | .mu _ _ :: l, k => by simp [injA, injA_len]
  | .own _ :: l, k => by simp [injA, injA_len]

theorem tr_go {tab : List TyI} (hT : TabOk P tab) {f : FuncId} {fn : Func} {c : Code} {args : List Arg} {res : List DV} (hf : P.funcs[f]? = some fn) (hname : (fn.name == "runtime.NumGoroutine") = false) (hb : fn.body = some c) (hs : simpleA args = true)
    (hn : fn.ntmps = n) (hl : Nat.ble args.length n = true) (ho : enumT 0 (injA 0 args) = ov) (hh : newsAt 0 (objsA args) = hv)
    (hwp : VWp P c (postQ tab fn args res) (mk ov n hv)) : Tr P f args res := by
  refine tr_of hT hf hname hb hs ?_
  rw [init_mk (by rw [injA_len, hn]; simpa using hl) injA_len, ho, hh, hn]
  exact hwp
end

end Go.Proofs.Ytkcpbahcnlhmjaa.V
