/-
  Steps of the walk in short form; arithmetic and comparisons of plain values.
  Arithmetic and comparisons of plain values, as the walk asks for them.
  States of the walk as overlays: temporaries 'tl', heap 'hp'; the walk's steps over them.
  The rules in short form: side conditions reckoned, results told.
  Calls in short form; ends of functions; blocks; loops over overlays.
  Drawn regions over overlays.
  Rows that are filled element by element; stores that take rows in.
  Weights and bounds of native values.
  The mark's text; division; bytes.
  Marks, natively.
  How far marks count.
  Appending, in short form.
  The native program beside the walk: its combinators and steps; guards over overlays.
  Native loops as recursions over lists.
  Arguments as a row reads them, shown by native values ('Rd').
  Calls of function values that came in.
  Calls whose results are read alone; bytes of strings; parts of strings and of slices; tests of plain values.
  Parts of slices that are read.
  Contracts of calls that turn nothing; least and greatest; the front of a row.
  The address of a field behind a captured pointer, read only.
-/
import Derived.Test.YtglilpigoocgeaaGreatDoorVB
import Derived.Laws.Sem
import GoSem.ClaimWide
import Derived.Carry
import Derived.Laws.Small
set_option linter.unusedVariables false
set_option linter.unusedSimpArgs false
namespace Go.Proofs.YtglilpigoocgeaaGreatDoor.V
open Go
set_option linter.unusedVariables false
set_option linter.unusedSimpArgs false

/-- Operations one behind the other, as a list. -/
def OpsL (P : Program) (ops : Array Oper) : List Oper → St → (St → Prop) → Prop
  | [], st, K => K st
  | o :: l, st, K => (o.guard = none ∧ ∃ S : St → Prop, DoesS P o st S ∧ ∀ st', S st' → OpsL P ops l st' K) ∨
       (∃ j want oj d b, o.guard = some (j, want) ∧ ops[j]? = some oj ∧ oj.dst = some d ∧ getT st.t d = .t ⟨false, [.d (.lf (.bool b))]⟩ ∧
        (b = want → ∃ S : St → Prop, DoesS P o st S ∧ ∀ st', S st' → OpsL P ops l st' K) ∧ (b ≠ want → OpsL P ops l ⟨putT st.t o.dst (.tu []), st.h⟩ K)) ∨
       (∃ j want oj d, o.guard = some (j, want) ∧ ops[j]? = some oj ∧ oj.dst = some d ∧ getT st.t d = .tu [] ∧ OpsL P ops l ⟨putT st.t o.dst (.tu []), st.h⟩ K)

section
variable {P : Program} {ops : Array Oper} {K : St → Prop}

theorem ops_of_list : ∀ (l : List Oper) (k : Nat) (st : St), (∀ j, j < l.length → ops[k + j]? = l[j]?) → OpsL P ops l st K → Ops P ops (List.range' k l.length) st K
  | [], k, st, _, h => h
  | o :: l, k, st, hl, h => by
    have h0 : ops[k]? = some o := by simpa using hl 0 (by simp)
    have ht : ∀ st, OpsL P ops l st K → Ops P ops (List.range' (k + 1) l.length) st K := fun st h => ops_of_list l (k + 1) st (fun j hj => by
      have := hl (j + 1) (by simp; omega)
      rwa [← Nat.add_assoc, Nat.add_right_comm, List.getElem?_cons_succ] at this) h
    rw [List.length_cons, List.range'_succ]
    refine ⟨o, h0, ?_⟩
    rcases h with ⟨hg, S, hd, h⟩ | ⟨j, want, oj, d, b, e1, e2, e3, e4, h1, h2⟩ | ⟨j, want, oj, d, e1, e2, e3, e4, h⟩
    · exact .inl ⟨hg, S, hd, fun st' hS => ht _ (h st' hS)⟩
    · refine .inr (.inl ⟨j, want, oj, d, b, e1, e2, e3, e4, fun e => ?_, fun e => ht _ (h2 e)⟩)
      obtain ⟨S, hd, h⟩ := h1 e
      exact ⟨S, hd, fun st' hS => ht _ (h st' hS)⟩
    · exact .inr (.inr ⟨j, want, oj, d, e1, e2, e3, e4, ht _ h⟩)

theorem Does.toS {o : Oper} {st st' : St} (h : Does P o st st') : DoesS P o st (· = st') :=
  fun w0 M0 A0 a w K Q hr hk => h w0 M0 A0 a w K Q hr fun a' w' hr' => hk st' a' w' rfl hr'
theorem s_one {o : Oper} {l : List Oper} {st st' : St} (hg : o.guard = none) (hd : Does P o st st') (hk : OpsL P ops l st' K) : OpsL P ops (o :: l) st K :=
  .inl ⟨hg, _, hd.toS, fun st2 e => by subst e; exact hk⟩

theorem v_reg {id : Nat} {l : List Oper} {st : St} {Q : Exit → St → Prop} (h : OpsL P l.toArray l st (fun s => Q .normal s)) : VWp P (.region id l.toArray false) Q st := by
  refine v_region ?_
  have := ops_of_list (ops := l.toArray) l 0 st (fun j hj => by simp) h
  rwa [List.size_toArray, List.range_eq_range']

theorem s_end {st : St} (h : K st) : OpsL P ops [] st K := h
theorem s_y {o : Oper} {l : List Oper} {t t' : List Slot} {h : Heap} {r : Slot} (hy : Yield P o t h r) (hg : o.guard = none) (ht : putT t o.dst r = t') (hk : OpsL P ops l ⟨t', h⟩ K) : OpsL P ops (o :: l) ⟨t, h⟩ K :=
  s_one hg hy.one (by rw [ht]; exact hk)
theorem s_r {o : Oper} {l : List Oper} {t t' : List Slot} {h h' : Heap} {r : Slot} {news : List (Nat × VO)} (hy : DoesR P o t h r news) (hg : o.guard = none) (ht : putT t o.dst r = t') (hh : updAll h news = h') (hk : OpsL P ops l ⟨t', h'⟩ K) : OpsL P ops (o :: l) ⟨t, h⟩ K :=
  s_one hg hy.does (by rw [ht, hh]; exact hk)
theorem s_k {o : Oper} {l : List Oper} {t t' : List Slot} {h h' : Heap} {r : Slot} {news : List (Nat × VO)} {G : List Nat} (hy : DoesK P o t h r news G) (hg : o.guard = none) (ht : putT (t.map (eraseS G)) o.dst r = t') (hh : updAll (letgo G h) news = h')
    (hk : OpsL P ops l ⟨t', h'⟩ K) : OpsL P ops (o :: l) ⟨t, h⟩ K :=
  s_one hg hy.does (by rw [ht, hh]; exact hk)
theorem s_d {o : Oper} {l : List Oper} {t t1 t' : List Slot} {h h1 h' : Heap} (hy : Does P o ⟨t, h⟩ ⟨t1, h1⟩) (hg : o.guard = none) (ht : t1 = t') (hh : h1 = h') (hk : OpsL P ops l ⟨t', h'⟩ K) : OpsL P ops (o :: l) ⟨t, h⟩ K :=
  s_one hg hy (by rw [ht, hh]; exact hk)
/-- An operation under a guard that is met: as one without; one under a guard that is not: nothing. -/
theorem g_run {o oj : Oper} {l : List Oper} {t : List Slot} {h : Heap} {j d : Nat} {want b : Bool} (hg : o.guard = some (j, want)) (hj : ops[j]? = some oj) (hd : oj.dst = some d) (hb : getT t d = .t ⟨false, [.d (.lf (.bool b))]⟩)
    (hw : b = want) (hk : OpsL P ops ({ o with guard := none } :: l) ⟨t, h⟩ K) : OpsL P ops (o :: l) ⟨t, h⟩ K := by
  rcases hk with ⟨_, S, h1, h2⟩ | ⟨j', want', oj', d', b', e1, _⟩ | ⟨j', want', oj', d', e1, _⟩
  · exact .inr (.inl ⟨j, want, oj, d, b, hg, hj, hd, hb, fun _ => ⟨S, h1, h2⟩, fun hne => absurd hw hne⟩)
  · cases e1
  · cases e1
theorem g_skip {o oj : Oper} {l : List Oper} {t t' : List Slot} {h : Heap} {j d : Nat} {want b : Bool} (hg : o.guard = some (j, want)) (hj : ops[j]? = some oj) (hd : oj.dst = some d) (hb : getT t d = .t ⟨false, [.d (.lf (.bool b))]⟩)
    (hw : b = !want) (ht : putT t o.dst (.tu []) = t') (hk : OpsL P ops l ⟨t', h⟩ K) : OpsL P ops (o :: l) ⟨t, h⟩ K :=
  .inr (.inl ⟨j, want, oj, d, b, hg, hj, hd, hb, fun e => absurd (e.symm.trans hw) (by simp), fun _ => by rw [ht]; exact hk⟩)
theorem g_none {o oj : Oper} {l : List Oper} {t t' : List Slot} {h : Heap} {j d : Nat} {want : Bool} (hg : o.guard = some (j, want)) (hj : ops[j]? = some oj) (hd : oj.dst = some d) (hb : getT t d = .tu [])
    (ht : putT t o.dst (.tu []) = t') (hk : OpsL P ops l ⟨t', h⟩ K) : OpsL P ops (o :: l) ⟨t, h⟩ K := .inr (.inr ⟨j, want, oj, d, hg, hj, hd, hb, by rw [ht]; exact hk⟩)
theorem s_s {o : Oper} {l : List Oper} {st : St} {S : St → Prop} (hd : DoesS P o st S) (hg : o.guard = none) (hk : ∀ st', S st' → OpsL P ops l st' K) : OpsL P ops (o :: l) st K := .inl ⟨hg, S, hd, hk⟩

/-- The heap as a list. -/
theorem upd_heapOf {l : List VO} {k : Nat} {o : VO} (hk : k < l.length) : upd (heapOf l) k o = heapOf (l.set k o) := by
  funext j
  simp only [upd, heapOf, List.getD_eq_getElem?_getD, List.getElem?_set]
  by_cases e : k = j
  · subst e; simp [hk]
  · have : ¬ j = k := fun h => e h.symm
    simp [e, this]
theorem upd_push {l : List VO} {o : VO} : upd (heapOf l) l.length o = heapOf (l ++ [o]) := by
  funext j
  simp only [upd, heapOf, List.getD_eq_getElem?_getD, List.getElem?_append]
  by_cases e : j = l.length
  · subst e; simp
  · by_cases hl : j < l.length
    · simp [e, hl]
    · have : ¬ j - l.length = 0 := by omega
      simp only [if_neg e, if_neg hl]
      rw [List.getElem?_eq_none (by omega), List.getElem?_eq_none (by simp; omega)]
end

/-! ### plain values -/
section
variable {P : Program}
theorem b_int (n : Int) : sca (.int .i64 n) = true := rfl
end

end Go.Proofs.YtglilpigoocgeaaGreatDoor.V
namespace Go.Proofs.YtglilpigoocgeaaGreatDoor.V
open Go
set_option linter.unusedVariables false
set_option linter.unusedSimpArgs false

section
variable {P : Program} {T : TypeId} {a b : Int} {s u : ByteArray} {w : World}
theorem wr_i64 {n : Int} (h1 : -9223372036854775808 ≤ n) (h2 : n < 9223372036854775808) : IntKind.wrap .i64 n = n := by
  have e : IntKind.wrap .i64 n = if 9223372036854775808 ≤ n % 18446744073709551616 then n % 18446744073709551616 - 18446744073709551616 else n % 18446744073709551616 := by
    simp [IntKind.wrap, IntKind.signed, IntKind.bits]
  rw [e]
  split <;> omega
theorem b_add : (binOp .add T (.int .i64 a) (.int .i64 b)).run P w = .ok (.int .i64 (IntKind.wrap .i64 (a + b))) w := by simp [binOp_add, Op.intArith]
theorem b_sub : (binOp .sub T (.int .i64 a) (.int .i64 b)).run P w = .ok (.int .i64 (IntKind.wrap .i64 (a - b))) w := by simp [binOp_sub, Op.intArith]
theorem b_addn (h1 : -9223372036854775808 ≤ a + b) (h2 : a + b < 9223372036854775808) : (binOp .add T (.int .i64 a) (.int .i64 b)).run P w = .ok (.int .i64 (a + b)) w := by rw [b_add, wr_i64 h1 h2]
theorem b_subn (h1 : -9223372036854775808 ≤ a - b) (h2 : a - b < 9223372036854775808) : (binOp .sub T (.int .i64 a) (.int .i64 b)).run P w = .ok (.int .i64 (a - b)) w := by rw [b_sub, wr_i64 h1 h2]
theorem b_eql {k : IntKind} : (binOp .eql T (.int k a) (.int k b)).run P w = .ok (.bool (decide (a = b))) w := by
  rw [binOp_eql]
  have : (a == b) = decide (a = b) := by by_cases h : a = b <;> simp [h]
  rw [this]; rfl
theorem b_neq {k : IntKind} : (binOp .neq T (.int k a) (.int k b)).run P w = .ok (.bool (decide (a ≠ b))) w := by
  rw [binOp_neq]
  have : (a != b) = decide (a ≠ b) := by by_cases h : a = b <;> simp [h]
  rw [this]; rfl
theorem b_lss {k : IntKind} : (binOp .lss T (.int k a) (.int k b)).run P w = .ok (.bool (decide (a < b))) w := by rw [binOp_lss]; rfl
theorem b_leq {k : IntKind} : (binOp .leq T (.int k a) (.int k b)).run P w = .ok (.bool (decide (a ≤ b))) w := by rw [binOp_leq]; rfl
theorem b_gtr {k : IntKind} : (binOp .gtr T (.int k a) (.int k b)).run P w = .ok (.bool (decide (b < a))) w := by rw [binOp_gtr]; rfl
theorem b_geq {k : IntKind} : (binOp .geq T (.int k a) (.int k b)).run P w = .ok (.bool (decide (b ≤ a))) w := by rw [binOp_geq]; rfl
theorem str_beq : (s.toList == u.toList) = decide (s = u) := by
  rw [ByteArray.toList_eq, ByteArray.toList_eq]
  by_cases h : s = u
  · subst h; simp
  · have : ¬ s.data = u.data := fun hh => h (ByteArray.ext hh)
    simp [h, this]
theorem b_seql : (binOp .eql T (.string s) (.string u)).run P w = .ok (.bool (decide (s = u))) w := by rw [binOp_string_eql, str_beq]; rfl
theorem b_sneq : (binOp .neq T (.string s) (.string u)).run P w = .ok (.bool (decide (s ≠ u))) w := by
  rw [binOp_string_neq, str_beq]
  by_cases h : s = u <;> simp [h]
theorem b_sadd (h : s.size + u.size ≤ 9223372036854775807) : (binOp .add T (.string s) (.string u)).run P w = .ok (.string (s ++ u)) w := by
  rw [binOp_string_add]; simp [Op.stringOp]; omega
theorem u_not {b : Bool} : (Op.unary .not (.bool b)).run P w = .ok (.bool (!b)) w := by simp [Op.unary]
end

/-! ### data, shortly -/
abbrev dI (n : Int) : Dat := .lf (.int .i64 n)
abbrev dB (b : Bool) : Dat := .lf (.bool b)
abbrev dS (s : ByteArray) : Dat := .lf (.string s)
abbrev sc (d : Dat) : Slot := .t ⟨false, [.d d]⟩
abbrev one (d : Dat) : DV := ⟨false, [d]⟩

end Go.Proofs.YtglilpigoocgeaaGreatDoor.V
namespace Go.Proofs.YtglilpigoocgeaaGreatDoor.V
open Go
set_option linter.unusedVariables false
set_option linter.unusedSimpArgs false

def lookT : List (Nat × Slot) → Nat → Slot
  | [], _ => .dead
  | (j, x) :: l, i => match Nat.beq i j with
    | true => x
    | false => lookT l i
def tl (ov : List (Nat × Slot)) (n : Nat) : List Slot := (List.range n).map (lookT ov)
def hp : List (Nat × VO) → Heap
  | [], _ => .gone
  | (j, x) :: l, i => match Nat.beq i j with
    | true => x
    | false => hp l i
abbrev mk (ov : List (Nat × Slot)) (n : Nat) (hv : List (Nat × VO)) : St := ⟨tl ov n, hp hv⟩

theorem tl_len {ov : List (Nat × Slot)} {n : Nat} : (tl ov n).length = n := by simp [tl]
theorem getT_tl {ov : List (Nat × Slot)} {n i : Nat} : getT (tl ov n) i = if i < n then lookT ov i else .dead := by
  simp only [getT, tl, List.getD_eq_getElem?_getD, List.getElem?_map]
  by_cases h : i < n
  · simp [h]
  · rw [List.getElem?_eq_none (by simpa using Nat.not_lt.1 h)]; simp [h]
theorem eg {ov : List (Nat × Slot)} {n i : Nat} {y : Slot} (hb : Nat.blt i n = true) (h : lookT ov i = y) : getT (tl ov n) i = y := by
  have hl : i < n := by simpa using hb
  rw [getT_tl, if_pos hl, h]
theorem e {ov : List (Nat × Slot)} {n i : Nat} {y : TV} (hb : Nat.blt i n = true) (h : lookT ov i = .t y) : Ev (tl ov n) (.tmp i) y := eg hb h
theorem ec {t : List Slot} {v : Value} (h : sca v = true) : Ev t (.const v) ⟨false, [.d (.lf v)]⟩ := CRel.lf h
theorem en {t : List Slot} (n : Nat) : Ev t (.const (.slice none 0 0)) ⟨false, [.nl n]⟩ := CRel.nil n
theorem ea {t : List Slot} {arr : Array Value} {ds : List Dat} (h : zcells ds arr.toList = true) : Ev t (.const (.agg arr)) ⟨true, ds.map zvc⟩ := CRel.ag h
theorem beq_iff {i j : Nat} : Nat.beq i j = true ↔ i = j := ⟨Nat.eq_of_beq_eq_true, fun h => by subst h; exact Nat.beq_refl i⟩
theorem lookT_cons {ov : List (Nat × Slot)} {i j : Nat} {x : Slot} : lookT ((j, x) :: ov) i = if i = j then x else lookT ov i := by
  simp only [lookT]
  cases hb : Nat.beq i j with
  | true => rw [if_pos (beq_iff.1 hb)]
  | false => rw [if_neg]; intro h; rw [beq_iff.2 h] at hb; cases hb
theorem hp_cons {ov : List (Nat × VO)} {i j : Nat} {x : VO} : hp ((j, x) :: ov) i = if i = j then x else hp ov i := by
  simp only [hp]
  cases hb : Nat.beq i j with
  | true => rw [if_pos (beq_iff.1 hb)]
  | false => rw [if_neg]; intro h; rw [beq_iff.2 h] at hb; cases hb
theorem put_tl {ov : List (Nat × Slot)} {n d : Nat} {x : Slot} : putT (tl ov n) (some d) x = tl ((d, x) :: ov) n := by
  apply List.ext_getElem?
  intro i
  simp only [putT, tl, List.getElem?_set, List.length_map, List.length_range, List.getElem?_map]
  by_cases hi : i < n
  · simp only [List.getElem?_range hi, Option.map_some, lookT_cons]
    by_cases e : d = i
    · subst e; simp [hi]
    · rw [if_neg e, if_neg (fun h => e h.symm)]
  · by_cases e : d = i
    · subst e; simp [hi]
    · simp only [if_neg e]; rw [List.getElem?_eq_none (by simpa using hi)]; rfl
def puT (ov : List (Nat × Slot)) : Option Nat → Slot → List (Nat × Slot)
  | some d, x => (d, x) :: ov
  | none, _ => ov
theorem put_puT {ov : List (Nat × Slot)} {n : Nat} {d : Option Nat} {x : Slot} : putT (tl ov n) d x = tl (puT ov d x) n := by
  cases d with
  | none => rfl
  | some d => exact put_tl
theorem upd_hp {hv : List (Nat × VO)} {k : Nat} {o : VO} : upd (hp hv) k o = hp ((k, o) :: hv) := by
  funext j; rw [hp_cons]; rfl
def updsH : List (Nat × VO) → List (Nat × VO) → List (Nat × VO)
  | hv, [] => hv
  | hv, p :: l => updsH (p :: hv) l
theorem updAll_hp : ∀ {E hv : List (Nat × VO)}, updAll (hp hv) E = hp (updsH hv E)
  | [], hv => rfl
  | (k, o) :: E, hv => by simp only [updAll, updsH]; rw [upd_hp]; exact updAll_hp

section
variable {P : Program} {ops : Array Oper} {K : St → Prop} {o : Oper} {l : List Oper} {ov ov' : List (Nat × Slot)} {n : Nat} {hv hv' : List (Nat × VO)}

/-- A reading or reckoning operation. -/
theorem sy {d : Nat} (r : Slot) (hy : Yield P o (tl ov n) (hp hv) r) (hg : o.guard = none) (hd : o.dst = some d) (hk : OpsL P ops l (mk ((d, r) :: ov) n hv) K) : OpsL P ops (o :: l) (mk ov n hv) K :=
  s_y hy hg (by rw [hd]; exact put_tl) hk
/-- An operation that makes an object. -/
theorem sr {d : Nat} (k : Nat) (r : Slot) (x : VO) (hy : DoesR P o (tl ov n) (hp hv) r [(k, x)]) (hg : o.guard = none) (hd : o.dst = some d) (hk : OpsL P ops l (mk ((d, r) :: ov) n ((k, x) :: hv)) K) : OpsL P ops (o :: l) (mk ov n hv) K :=
  s_r hy hg (by rw [hd]; exact put_tl) upd_hp hk
/-- Any operation whose outcome is told. -/
theorem sd {d : Option Nat} {E : List (Nat × VO)} (r : Slot) (hy : Does P o (mk ov n hv) ⟨putT (tl ov n) o.dst r, updAll (hp hv) E⟩) (hg : o.guard = none) (hd : o.dst = d) (ho : puT ov d r = ov') (hh : updsH hv E = hv') (hk : OpsL P ops l (mk ov' n hv') K) :
    OpsL P ops (o :: l) (mk ov n hv) K :=
  s_d hy hg (by rw [hd, put_puT, ho]) (by rw [updAll_hp, hh]) hk

/-! ### letting go -/
def AllLook (ov : List (Nat × Slot)) : List (Nat × Slot) → Prop
  | [] => True
  | (i, x) :: l => lookT ov i = x ∧ AllLook ov l
def AllLookH (hv : List (Nat × VO)) : List (Nat × VO) → Prop
  | [] => True
  | (i, x) :: l => hp hv i = x ∧ AllLookH hv l
def isThere (hv : List (Nat × VO)) (k : Nat) : Bool := match hp hv k with
  | .gone => false
  | _ => true
def liveOk (ov : List (Nat × Slot)) (hv : List (Nat × VO)) : Bool :=
  ov.all (fun p => p.2.refs.all (isThere hv)) && hv.all fun p => match p.2 with
    | .var cs => cs.all fun c => c.refs.all (isThere hv)
    | _ => true

theorem AllLook.get : ∀ {ov' : List (Nat × Slot)}, AllLook ov ov' → ∀ i, lookT ov' i = lookT ov i ∨ lookT ov' i = .dead
  | [], _, i => .inr rfl
  | (j, x) :: l, h, i => by
    rw [lookT_cons]
    by_cases e : i = j
    · subst e; rw [if_pos rfl]; exact .inl h.1.symm
    · rw [if_neg e]; exact AllLook.get h.2 i
theorem AllLookH.get : ∀ {hv' : List (Nat × VO)}, AllLookH hv hv' → ∀ i, hp hv' i = hp hv i ∨ hp hv' i = .gone
  | [], _, i => .inr rfl
  | (j, x) :: l, h, i => by
    rw [hp_cons]
    by_cases e : i = j
    · subst e; rw [if_pos rfl]; exact .inl h.1.symm
    · rw [if_neg e]; exact AllLookH.get h.2 i
theorem lookT_mem : ∀ {ov : List (Nat × Slot)} {i : Nat}, lookT ov i = .dead ∨ ∃ p ∈ ov, p.2 = lookT ov i
  | [], i => .inl rfl
  | (j, x) :: l, i => by
    rw [lookT_cons]
    by_cases e : i = j
    · rw [if_pos e]; exact .inr ⟨(j, x), by simp, rfl⟩
    · rw [if_neg e]
      rcases lookT_mem (ov := l) (i := i) with h | ⟨p, hp, h⟩
      · exact .inl h
      · exact .inr ⟨p, by simp [hp], h⟩
theorem hp_mem : ∀ {hv : List (Nat × VO)} {i : Nat}, hp hv i = .gone ∨ ∃ p ∈ hv, p.2 = hp hv i
  | [], i => .inl rfl
  | (j, x) :: l, i => by
    rw [hp_cons]
    by_cases e : i = j
    · rw [if_pos e]; exact .inr ⟨(j, x), by simp, rfl⟩
    · rw [if_neg e]
      rcases hp_mem (hv := l) (i := i) with h | ⟨p, hp, h⟩
      · exact .inl h
      · exact .inr ⟨p, by simp [hp], h⟩
theorem isThere_ne {k : Nat} (h : isThere hv k = true) : hp hv k ≠ .gone := by
  intro e; simp [isThere, e] at h

theorem weak_of (h1 : AllLook ov ov') (h2 : AllLookH hv hv') (h3 : liveOk ov' hv' = true) : Weak (mk ov n hv) (mk ov' n hv') := by
  simp only [liveOk, Bool.and_eq_true, List.all_eq_true] at h3
  refine ⟨by simp [tl_len], fun i => ?_, fun k => h2.get k, fun i o ho => ?_, fun k cs hk x hx o ho => ?_⟩
  · show getT (tl ov' n) i = getT (tl ov n) i ∨ _
    rw [getT_tl, getT_tl]
    split
    · exact h1.get i
    · exact .inl rfl
  · have ho' : o ∈ (getT (tl ov' n) i).refs := ho
    rw [getT_tl] at ho'
    split at ho'
    · rcases lookT_mem (ov := ov') (i := i) with h | ⟨p, hp, h⟩
      · rw [h] at ho'; simp [Slot.dead, Slot.refs, TV.refs, VC.refs] at ho'
      · rw [← h] at ho'
        exact isThere_ne (h3.1 p hp o ho')
    · simp [Slot.dead, Slot.refs, TV.refs, VC.refs] at ho'
  · have hk' : hp hv' k = .var cs := hk
    rcases hp_mem (hv := hv') (i := k) with h | ⟨p, hp, h⟩
    · rw [h] at hk'; cases hk'
    · have := h3.2 p hp
      rw [h, hk'] at this
      simp only [List.all_eq_true] at this
      exact isThere_ne (this x hx o ho)

theorem v_let {c : Code} {Q : Exit → St → Prop} (h1 : AllLook ov ov') (h2 : AllLookH hv hv') (h3 : liveOk ov' hv' = true) (h : VWp P c Q (mk ov' n hv')) : VWp P c Q (mk ov n hv) := v_weak (weak_of h1 h2 h3) h

def enumT : Nat → List Slot → List (Nat × Slot)
  | _, [] => []
  | i, x :: l => (i, x) :: enumT (i + 1) l
theorem lookT_enum : ∀ {l : List Slot} {i j : Nat}, lookT (enumT i l) (i + j) = l.getD j .dead
  | [], i, j => by simp [enumT, lookT]
  | x :: l, i, 0 => by simp [enumT, lookT_cons]
  | x :: l, i, j + 1 => by
    simp only [enumT, lookT_cons]
    rw [if_neg (by omega)]
    have := lookT_enum (l := l) (i := i + 1) (j := j)
    rw [Nat.add_assoc, Nat.add_comm 1] at this
    rw [this]; simp
theorem hp_news : ∀ {l : List VO} {i j : Nat}, hp (newsAt i l) j = if i ≤ j then l.getD (j - i) .gone else .gone
  | [], i, j => by simp [newsAt, hp]
  | x :: l, i, j => by
    simp only [newsAt, hp_cons]
    rw [hp_news]
    by_cases e : j = i
    · subst e; simp
    · rw [if_neg e]
      by_cases h : i ≤ j
      · have e1 : j - i = (j - (i + 1)) + 1 := by omega
        rw [if_pos h, if_pos (by omega), e1]; simp
      · rw [if_neg h, if_neg (by omega)]

theorem init_mk {fn : Func} {args : List Arg} (hl : (injA 0 args).length ≤ fn.ntmps) (hl2 : (injA 0 args).length = args.length) : initSt fn args = mk (enumT 0 (injA 0 args)) fn.ntmps (newsAt 0 (objsA args)) := by
  unfold initSt mk
  congr 1
  · apply List.ext_getElem
    · simp [tl_len]; omega
    · intro i h1 h2
      rw [tl_len] at h2
      have e1 := lookT_enum (l := injA 0 args) (i := 0) (j := i)
      rw [Nat.zero_add] at e1
      simp only [tl, List.getElem_map, List.getElem_range, e1, List.getElem_append, List.getD_eq_getElem?_getD]
      split
      · rename_i h; rw [List.getElem?_eq_getElem h]; rfl
      · rename_i h; rw [List.getElem?_eq_none (by omega)]; simp
  · funext j
    rw [hp_news]
    simp [heapOf]

theorem injA_len : ∀ {args : List Arg} {k : Nat}, (injA k args).length = args.length
  | [], _ => rfl
  | .ro _ :: l, k => by simp [injA, injA_len]
  | .mu _ _ :: l, k => by simp [injA, injA_len]
  | .own _ :: l, k => by simp [injA, injA_len]

theorem tr_go {tab : List TyI} (hT : TabOk P tab) {f : FuncId} {fn : Func} {c : Code} {args : List Arg} {res : List DV} (hf : P.funcs[f]? = some fn) (hname : (fn.name == "runtime.NumGoroutine") = false) (hb : fn.body = some c) (hs : simpleA args = true)
    (hn : fn.ntmps = n) (hl : Nat.ble args.length n = true) (ho : enumT 0 (injA 0 args) = ov) (hh : newsAt 0 (objsA args) = hv)
    (hwp : VWp P c (postQ tab fn args res) (mk ov n hv)) : Tr P f args res := by
  refine tr_of hT hf hname hb hs ?_
  rw [init_mk (by rw [injA_len, hn]; simpa using hl) injA_len, ho, hh, hn]
  exact hwp
end

end Go.Proofs.YtglilpigoocgeaaGreatDoor.V
namespace Go.Proofs.YtglilpigoocgeaaGreatDoor.V
open Go
set_option linter.unusedVariables false
set_option linter.unusedSimpArgs false

def notDead : VC → Bool
  | .dead => false
  | _ => true
def tvOk (y : TV) : Bool := (y.ag || Nat.beq y.cs.length 1) && y.cs.all notDead
def ldOk (i : TyI) (off len : Nat) : Bool := i.ok && (i.ag || Nat.beq i.sz 1) && Nat.ble (off + i.sz) len
def elOk (i : TyI) (n : Nat) : Bool := i.ok && Nat.beq i.sz n && Nat.blt 0 i.bytes && Nat.blt 0 i.sz

theorem ldOk_of {i : TyI} {off len : Nat} (h : ldOk i off len = true) : i.ok = true ∧ (i.ag = true ∨ i.sz = 1) ∧ off + i.sz ≤ len := by
  simp only [ldOk, Bool.and_eq_true, Bool.or_eq_true] at h
  exact ⟨h.1.1, h.1.2.imp id Nat.eq_of_beq_eq_true, Nat.le_of_ble_eq_true h.2⟩
theorem elOk_of {i : TyI} {n : Nat} (h : elOk i n = true) : i.ok = true ∧ i.sz = n ∧ 0 < i.bytes ∧ 0 < i.sz := by
  simp only [elOk, Bool.and_eq_true] at h
  refine ⟨h.1.1.1, Nat.eq_of_beq_eq_true h.1.1.2, by simpa using h.1.2, by simpa using h.2⟩
theorem tvOk_of {y : TV} (h : tvOk y = true) : okCells y ∧ ∀ c ∈ y.cs, c ≠ .dead := by
  simp only [tvOk, Bool.and_eq_true, Bool.or_eq_true, List.all_eq_true] at h
  have h2 : ∀ c ∈ y.cs, c ≠ .dead := fun c hc e => by have := h.2 c hc; rw [e] at this; cases this
  refine ⟨?_, h2⟩
  rcases h.1 with h1 | h1
  · exact .inl h1
  · obtain ⟨c, hc⟩ := List.length_eq_one_iff.1 (Nat.eq_of_beq_eq_true h1)
    exact .inr ⟨c, hc, h2 c (by rw [hc]; simp)⟩

section
variable {P : Program} {o : Oper} {t : List Slot} {h : Heap} {tab : List TyI}

theorem zmv {x : Operand} {y : TV} (ho : o.op = .move x) (he : Ev t x y) : Yield P o t h (.t y) := y_move (.inl ho) he
theorem zas {x : Operand} {y : TV} (ho : o.op = .assign x) (he : Ev t x y) : Yield P o t h (.t y) := y_move (.inr ho) he
theorem zfa {S : TypeId} {x : Operand} {f fo fT : Nat} {y z : VC} {offs : List (Nat × Nat)} (hT : TabOk P tab) (ho : o.op = .fieldAddr S x f) (hk : (ty tab S).k = .st offs) (hf : offs[f]? = some (fo, fT))
    (hx : Ev t x ⟨false, [y]⟩) (ha : isAddr y = true) (hr : faddr y fo = z) : Yield P o t h (.t ⟨false, [z]⟩) := by rw [← hr]; exact y_faddr hT ho hk hf hx ha
theorem zlv {T : TypeId} {x : Operand} {k off : Nat} {cs : List VC} {r : TV} (hT : TabOk P tab) (ho : o.op = .load T x) (hx : Ev t x ⟨false, [.vp k off]⟩) (hh : h k = .var cs)
    (hk : ldOk (ty tab T) off cs.length = true) (hr : (⟨(ty tab T).ag, (cs.drop off).take (ty tab T).sz⟩ : TV) = r) : Yield P o t h (.t r) := by
  obtain ⟨h1, h2, h3⟩ := ldOk_of hk
  rw [← hr]; exact y_ldvar hT ho hx hh h1 h2 h3
theorem zlr {T : TypeId} {x : Operand} {k g i j n ver : Nat} {es : List (List Dat)} {dp : Bool} {e : List Dat} {r : TV} (hT : TabOk P tab) (ho : o.op = .load T x) (hx : Ev t x ⟨false, [.ep k g i j]⟩) (hh : h k = .row n es dp g ver)
    (he : es[i]? = some e) (hk : ldOk (ty tab T) j e.length = true) (hr : (⟨(ty tab T).ag, rcells k ver dp i j ((e.drop j).take (ty tab T).sz)⟩ : TV) = r) : Yield P o t h (.t r) := by
  obtain ⟨h1, h2, h3⟩ := ldOk_of hk
  rw [← hr]; exact y_ldrow hT ho hx hh he h1 h2 h3
theorem zle {T : TypeId} {x : Operand} {n i j : Nat} {es : List (List Dat)} {e : List Dat} {r : TV} (hT : TabOk P tab) (ho : o.op = .load T x) (hx : Ev t x ⟨false, [.fe n es i j]⟩)
    (he : es[i]? = some e) (hk : ldOk (ty tab T) j e.length = true) (hr : (⟨(ty tab T).ag, ((e.drop j).take (ty tab T).sz).map .d⟩ : TV) = r) : Yield P o t h (.t r) := by
  obtain ⟨h1, h2, h3⟩ := ldOk_of hk
  rw [← hr]; exact y_ldfe hT ho hx he h1 h2 h3
theorem zlf {T : TypeId} {x : Operand} {off : Nat} {cells : List Dat} {r : TV} (hT : TabOk P tab) (ho : o.op = .load T x) (hx : Ev t x ⟨false, [.fp cells off]⟩)
    (hk : ldOk (ty tab T) off cells.length = true) (hr : (⟨(ty tab T).ag, ((cells.drop off).take (ty tab T).sz).map .d⟩ : TV) = r) : Yield P o t h (.t r) := by
  obtain ⟨h1, h2, h3⟩ := ldOk_of hk
  rw [← hr]; exact y_ldfp hT ho hx h1 h2 h3
theorem zfi {S : TypeId} {x : Operand} {f fo fT : Nat} {cs : List VC} {offs : List (Nat × Nat)} {r : TV} (hT : TabOk P tab) (ho : o.op = .field S x f) (hk : (ty tab S).k = .st offs) (hf : offs[f]? = some (fo, fT))
    (hx : Ev t x ⟨true, cs⟩) (hkf : ldOk (ty tab fT) fo cs.length = true) (hr : (⟨(ty tab fT).ag, (cs.drop fo).take (ty tab fT).sz⟩ : TV) = r) : Yield P o t h (.t r) := by
  obtain ⟨h1, h2, h3⟩ := ldOk_of hkf
  rw [← hr]; exact y_field hT ho hk hf hx h1 h2 h3
/-- The address of an element: of what is read ('zix'), of a row's view ('zis'). -/
theorem zix {T : TypeId} {x ix : Operand} {n el m : Nat} {es : List (List Dat)} (hT : TabOk P tab) (ho : o.op = .indexAddr T x ix) (hk : (ty tab T).k = .sl el) (hel : elOk (ty tab el) n = true)
    (hx : Ev t x ⟨false, [.d (.sl n es)]⟩) (hi : Ev t ix ⟨false, [.d (.lf (.int .i64 (m : Int)))]⟩) (hm : m < es.length) : Yield P o t h (.t ⟨false, [.fe n es m 0]⟩) := by
  obtain ⟨h1, h2, _⟩ := elOk_of hel
  exact y_iad hT ho hk ⟨h1, h2⟩ hx hi (Int.natCast_nonneg m) (by omega)
theorem zis {T : TypeId} {x ix : Operand} {k g off len room n ver el m j : Nat} {es : List (List Dat)} {dp : Bool} (hT : TabOk P tab) (ho : o.op = .indexAddr T x ix) (hk : (ty tab T).k = .sl el) (hel : elOk (ty tab el) n = true)
    (hx : Ev t x ⟨false, [.sr k g off len room]⟩) (hh : h k = .row n es dp g ver) (hi : Ev t ix ⟨false, [.d (.lf (.int .i64 (m : Int)))]⟩) (hm : m < len) (hj : off + m = j) : Yield P o t h (.t ⟨false, [.ep k g j 0]⟩) := by
  obtain ⟨h1, h2, _⟩ := elOk_of hel
  subst hj
  exact y_iasr hT ho hk ⟨h1, h2⟩ hx hh hi (Int.natCast_nonneg m) (by omega)
theorem zln {T : TypeId} {x : Operand} {y : VC} {e n : Nat} (hT : TabOk P tab) (ho : o.op = .call { callee := .builtin .len, args := #[x], argTypes := #[T] }) (hk : (ty tab T).k = .sl e) (hx : Ev t x ⟨false, [y]⟩) (hl : Len h y n) :
    Yield P o t h (.t ⟨false, [.d (.lf (.int .i64 n))]⟩) := y_len hT ho rfl hk hx hl
theorem zls {T : TypeId} {x : Operand} {s : ByteArray} (hT : TabOk P tab) (ho : o.op = .call { callee := .builtin .len, args := #[x], argTypes := #[T] }) (hk : (ty tab T).k = .str) (hx : Ev t x ⟨false, [.d (.lf (.string s))]⟩) :
    Yield P o t h (.t ⟨false, [.d (.lf (.int .i64 s.size))]⟩) := y_slen hT ho rfl hk hx
theorem zbx {T : TypeId} {k : Nat} {x : Operand} {y : TV} {cs : List VC} (ho : o.op = .box T x) (hx : Ev t x y) (hy : tvOk y = true) (hg : h k = .gone) (hc : y.cs = cs) : DoesR P o t h (.t ⟨false, [.vp k 0]⟩) [(k, .var cs)] := by
  subst hc
  refine r_box ho hx ?_ hg
  rcases (tvOk_of hy).1 with h1 | ⟨c, h1, h2⟩
  · exact .inl h1
  · exact .inr ⟨c, h1, h2⟩
theorem zal {T : TypeId} {k : Nat} {cs : List VC} (hT : TabOk P tab) (ho : o.op = .alloc T) (hk : (ty tab T).ok = true) (hg : h k = .gone) (hc : (ty tab T).zero.map zvc = cs) : DoesR P o t h (.t ⟨false, [.vp k 0]⟩) [(k, .var cs)] := by
  rw [← hc]; exact r_alloc hT ho hk hg
theorem zmk {T el : TypeId} {x y : Operand} {k l c n : Nat} {z : List Dat} (hT : TabOk P tab) (ho : o.op = .makeSlice T x y) (hk : (ty tab T).k = .sl el) (hel : elOk (ty tab el) n = true) (hx : Ev t x ⟨false, [.d (.lf (.int .i64 (l : Int)))]⟩)
    (hy : Ev t y ⟨false, [.d (.lf (.int .i64 (c : Int)))]⟩) (hlc : l ≤ c) (hbig : c * (ty tab el).bytes ≤ 281474976710656) (hg : h k = .gone) (hz : (ty tab el).zero = z) :
    DoesR P o t h (.t ⟨false, [.sr k 1 0 l l]⟩) [(k, .row n (List.replicate l z) true 1 0)] := by
  subst hz
  obtain ⟨h1, h2, h3, h4⟩ := elOk_of hel
  subst h2
  exact r_mkslice hT ho hk h1 hx hy hlc h3 h4 hbig hg
theorem zst {T : TypeId} {x v : Operand} {k off : Nat} {cs cs' : List VC} {y : TV} (hT : TabOk P tab) (ho : o.op = .store T x v) (hx : Ev t x ⟨false, [.vp k off]⟩) (hh : h k = .var cs)
    (hv : Ev t v y) (hy : tvOk y = true) (hk : ((ty tab T).ok && Nat.beq y.cs.length (ty tab T).sz && Nat.ble (off + y.cs.length) cs.length) = true) (hc : patch cs off y.cs = cs') :
    Does P o ⟨t, h⟩ ⟨putT t o.dst .dead, updAll h [(k, .var cs')]⟩ := by
  simp only [Bool.and_eq_true] at hk
  obtain ⟨h1, h2⟩ := tvOk_of hy
  rw [← hc]
  exact w_stvar hT ho hk.1.1 hx hh hv h1 h2 (Nat.eq_of_beq_eq_true hk.1.2) (Nat.le_of_ble_eq_true hk.2)
/-- A store into an element of a row: plain cells alone. -/
theorem zsr {T : TypeId} {x v : Operand} {k g i j n ver b : Nat} {es es' : List (List Dat)} {dp : Bool} {e ds : List Dat} {y : TV} (hT : TabOk P tab) (ho : o.op = .store T x v) (hx : Ev t x ⟨false, [.ep k g i j]⟩) (hh : h k = .row n es dp g ver)
    (he : es[i]? = some e) (hv : Ev t v y) (hy : tvOk y = true) (ha : AbsD h y.cs ds []) (hk : ((ty tab T).ok && Nat.beq y.cs.length (ty tab T).sz && Nat.ble (j + ds.length) e.length) = true)
    (hb : 0 < b ∨ (b = 0 ∧ ((e.drop j).take ds.length).all isLf = true)) (hr : es.set i (patch e j ds) = es') :
    Does P o ⟨t, h⟩ ⟨putT t o.dst .dead, updAll h [(k, .row n es' dp g (ver + b))]⟩ := by
  simp only [Bool.and_eq_true] at hk
  obtain ⟨h1, h2⟩ := tvOk_of hy
  rw [← hr]
  have := w_strow (G := []) (bump := b) hT ho hk.1.1 hx hh he hv h1 h2 (Nat.eq_of_beq_eq_true hk.1.2) ha List.nodup_nil (by simp) (.inr rfl) (Nat.le_of_ble_eq_true hk.2) hb
  rw [map_eraseS_nil, letgo_nil] at this
  exact this
end

/-! ### letting go of what is taken in -/
def eraseOv (G : List Nat) (ov : List (Nat × Slot)) : List (Nat × Slot) := ov.map fun p => (p.1, eraseS G p.2)
def eraseO (G : List Nat) : VO → VO
  | .var cs => .var (cs.map (eraseC G))
  | o => o
def eraseHv (G : List Nat) (hv : List (Nat × VO)) : List (Nat × VO) := hv.map fun p => (p.1, if G.contains p.1 then .gone else eraseO G p.2)
theorem eraseS_dead {G : List Nat} : eraseS G .dead = .dead := by simp [eraseS, Slot.dead, eraseV, TV.refs, VC.refs]
theorem lookT_erase {G : List Nat} : ∀ {ov : List (Nat × Slot)} {i : Nat}, lookT (eraseOv G ov) i = eraseS G (lookT ov i)
  | [], i => by simp [eraseOv, lookT, eraseS_dead]
  | (j, x) :: l, i => by
    have := lookT_erase (G := G) (ov := l) (i := i)
    simp only [eraseOv] at this
    simp only [eraseOv, List.map_cons, lookT_cons, this]
    split <;> rfl
theorem tl_erase {G : List Nat} {ov : List (Nat × Slot)} {n : Nat} : (tl ov n).map (eraseS G) = tl (eraseOv G ov) n := by
  simp only [tl, List.map_map]
  congr 1
  funext i
  exact lookT_erase.symm
theorem hp_erase {G : List Nat} : ∀ {hv : List (Nat × VO)}, letgo G (hp hv) = hp (eraseHv G hv)
  | [] => by funext k; simp [letgo, killH, eraseH, hp, eraseHv]
  | (j, x) :: l => by
    funext k
    have := congrFun (hp_erase (G := G) (hv := l)) k
    simp only [eraseHv] at this
    simp only [eraseHv, List.map_cons, hp_cons, ← this]
    simp only [letgo, killH, eraseH, hp_cons]
    by_cases e : k = j
    · subst e
      simp only [if_pos]
      split
      · rfl
      · cases x <;> rfl
    · simp only [if_neg e]

section
variable {P : Program} {ops : Array Oper} {K : St → Prop} {o : Oper} {l : List Oper} {ov ov' : List (Nat × Slot)} {n : Nat} {hv hv' : List (Nat × VO)}
/-- Any operation that lets objects go; what is kept is told. -/
theorem sk {d : Option Nat} {E : List (Nat × VO)} {G : List Nat} (r : Slot) (hy : Does P o (mk ov n hv) ⟨putT ((tl ov n).map (eraseS G)) o.dst r, updAll (letgo G (hp hv)) E⟩) (hg : o.guard = none) (hd : o.dst = d)
    (hk : OpsL P ops l (mk (puT (eraseOv G ov) d r) n (updsH (eraseHv G hv) E)) K) : OpsL P ops (o :: l) (mk ov n hv) K :=
  s_d hy hg (by rw [hd, tl_erase, put_puT]) (by rw [hp_erase, updAll_hp]) hk
end

end Go.Proofs.YtglilpigoocgeaaGreatDoor.V
namespace Go.Proofs.YtglilpigoocgeaaGreatDoor.V
open Go
set_option linter.unusedVariables false
set_option linter.unusedSimpArgs false

section
variable {t : List Slot} {h : Heap} {x : Operand} {ag : Bool} {cs : List VC} {ds ds' : List Dat} {R R' : List Nat} {E E1 : List (Nat × VO)} {xs : List Operand} {as : List Arg}
theorem ar (he : Ev t x ⟨ag, cs⟩) (hr : RdL h cs ds R) (tl : ArgsV t h xs as R' E) : ArgsV t h (x :: xs) (.ro ⟨ag, ds⟩ :: as) (R ++ R') E := .ro he hr tl
theorem am (he : Ev t x ⟨ag, cs⟩) (hm : MuC h cs ds ds' E1) (tl : ArgsV t h xs as R' E) : ArgsV t h (x :: xs) (.mu ⟨ag, ds⟩ ⟨ag, ds'⟩ :: as) R' (E1 ++ E) := .mu he hm tl
theorem ae {k n i j g ver : Nat} {es : List (List Dat)} {e : List Dat} (he : Ev t x ⟨ag, cs⟩) (hy : rcells k ver true i j ds = cs) (hk : h k = .row n es true g ver) (hi : es[i]? = some e) (hds : (e.drop j).take ds.length = ds) (hl : ds'.length = ds.length)
    (hsh : ∀ (q : Nat) m us, ds[q]? = some (.sl m us) → ∃ m' us', ds'[q]? = some (.sl m' us')) (hno : ds.all simple = true) (tl : ArgsV t h xs as R' E) :
    ArgsV t h (x :: xs) (.mu ⟨ag, ds⟩ ⟨ag, ds'⟩ :: as) R' ((k, .row n (es.set i (patch e j ds')) true g ver) :: E) := .el he hy.symm hk hi hds hl hsh (by simpa using hno) tl
end

def nodupB : List Nat → Bool
  | [] => true
  | x :: l => !l.contains x && nodupB l
theorem nodupB_of : ∀ {l : List Nat}, nodupB l = true → l.Nodup
  | [], _ => List.nodup_nil
  | x :: l, h => by
    simp only [nodupB, Bool.and_eq_true] at h
    refine List.nodup_cons.2 ⟨fun hx => ?_, nodupB_of h.2⟩
    have := h.1
    simp at this
    exact this hx
def freeB (hv : List (Nat × VO)) (k : Nat) : Nat → Bool
  | 0 => true
  | m + 1 => freeB hv k m && (match hp hv (k + m) with | .gone => true | _ => false)
theorem freeB_of {hv : List (Nat × VO)} {k : Nat} : ∀ {m : Nat}, freeB hv k m = true → ∀ i, i < m → hp hv (k + i) = .gone
  | 0, _, i, hi => by omega
  | m + 1, h, i, hi => by
    simp only [freeB, Bool.and_eq_true] at h
    by_cases e : i = m
    · subst e
      cases hh : hp hv (k + i) with
      | gone => rfl
      | var cs => rw [hh] at h; simp at h
      | row n es dp g ver => rw [hh] at h; simp at h
    · exact freeB_of h.1 i (by omega)
def callB (hv : List (Nat × VO)) (k m : Nat) (R E : List Nat) (s : Bool) : Bool := nodupB E && R.all (fun r => !E.contains r) && s && freeB hv k m

section
variable {P : Program} {o : Oper} {ov : List (Nat × Slot)} {n : Nat} {hv : List (Nat × VO)}

theorem zcall {f : FuncId} {args : Array Operand} {ats : Array TypeId} {as : List Arg} {res : List DV} {R : List Nat} {E : List (Nat × VO)} (k : Nat) (r : Slot) (E' : List (Nat × VO)) (ho : o.op = .call { callee := .value (.func f), args := args, argTypes := ats })
    (htr : Tr P f as res) (ha : ArgsV (tl ov n) (hp hv) args.toList as R E) (hb : callB hv k (objsR res).length R (keys E) (simpleR res) = true) (hr : resSlot k res = r) (hE : E ++ newsAt k (objsR res) = E') :
    Does P o (mk ov n hv) ⟨putT (tl ov n) o.dst r, updAll (hp hv) E'⟩ := by
  simp only [callB, Bool.and_eq_true, List.all_eq_true] at hb
  rw [← hr, ← hE]
  exact does_call k ho htr ha (nodupB_of hb.1.1.1) (fun r hr hm => by have := hb.1.1.2 r hr; simp at this; exact this hm) hb.1.2 (freeB_of hb.2)

theorem post_ret {tab : List TyI} {fn : Func} {args : List Arg} {res : List DV} {s : St} {K G : List Nat} (h1 : ResV tab s.t s.h fn.results.toList res K) (h2 : OutA s.h 0 args G) (h3 : nodupB (K ++ G) = true) : postQ tab fn args res .ret s :=
  ⟨K, G, h1, h2, nodupB_of h3⟩
theorem post_end {tab : List TyI} {fn : Func} {args : List Arg} {res : List DV} {s : St} {K G : List Nat} (h1 : ResV tab s.t s.h fn.results.toList res K) (h2 : OutA s.h 0 args G) (h3 : nodupB (K ++ G) = true) : postQ tab fn args res .normal s :=
  ⟨K, G, h1, h2, nodupB_of h3⟩
theorem rv {tab : List TyI} {t : List Slot} {h : Heap} {r : ResultVar} {y : TV} {ag : Bool} {ds : List Dat} {K K' : List Nat} {rs : List ResultVar} {xs : List DV} (he : ResE tab t h r y) (hy : tvOk y = true) (ha : AbsD h y.cs ds K) (hag : y.ag = ag) (tl : ResV tab t h rs xs K') :
    ResV tab t h (r :: rs) (⟨ag, ds⟩ :: xs) (K ++ K') := by
  rw [← hag]; exact .cons he (tvOk_of hy).1 ha tl

section
variable {Q : Exit → St → Prop} {s : St}
theorem blk_hit {id : Nat} (h : Q .normal s) : blockQ id Q (.exit id) s := by simp only [blockQ, if_pos]; exact h
theorem blk_miss {id id' : Nat} (hne : Nat.beq id' id = false) (h : Q (.exit id') s) : blockQ id Q (.exit id') s := by
  have : id' ≠ id := fun e => by rw [beq_iff.2 e] at hne; cases hne
  simp only [blockQ, if_neg this]; exact h

theorem blk_norm {id : Nat} (h : Q .normal s) : blockQ id Q .normal s := h
theorem then_exit {y : Code} {id : Nat} (h : Q (.exit id) s) : thenQ P y Q (.exit id) s := h
theorem loop_exit {ι : Type} {T : ι → St} {I : ι → Prop} {μ : ι → Nat} {x : ι} {id : Nat} (h : Q (.exit id) s) : loopQ T I μ x Q (.exit id) s := h
/-- A loop whose state at the head is told. -/
theorem v_lp {ι : Type} {c : Code} (T : ι → List (Nat × Slot)) (H : ι → List (Nat × VO)) (I : ι → Prop) (μ : ι → Nat) (x0 : ι) (h0 : I x0) (h1 : AllLook ov (T x0)) (h2 : AllLookH hv (H x0)) (h3 : liveOk (T x0) (H x0) = true)
    (round : ∀ x, I x → VWp P c (loopQ (fun x => mk (T x) n (H x)) I μ x Q) (mk (T x) n (H x))) : VWp P (.loop c) Q (mk ov n hv) :=
  v_loop (fun x => mk (T x) n (H x)) I μ x0 h0 (weak_of h1 h2 h3) round
/-- The loop's next round. -/
theorem lp_next {ι : Type} {T : ι → List (Nat × Slot)} {H : ι → List (Nat × VO)} {I : ι → Prop} {μ : ι → Nat} {x : ι} (y : ι) (hy : I y) (hlt : μ y < μ x) (h1 : AllLook ov (T y)) (h2 : AllLookH hv (H y)) (h3 : liveOk (T y) (H y) = true) :
    loopQ (fun x => mk (T x) n (H x)) I μ x Q .normal (mk ov n hv) := ⟨y, hy, hlt, weak_of h1 h2 h3⟩
end

/-- An element of a list that is mapped. -/
theorem getm {α β : Type} {f : α → β} {l : List α} {i : Nat} {x : α} (h : l[i]? = some x) : (l.map f)[i]? = some (f x) := by rw [List.getElem?_map, h]; rfl
theorem some_of_lt {α : Type} {l : List α} {i : Nat} (h : i < l.length) : ∃ x, l[i]? = some x := ⟨_, List.getElem?_eq_getElem h⟩
theorem lt_of_some {α : Type} {l : List α} {i : Nat} {x : α} (h : l[i]? = some x) : i < l.length := (List.getElem?_eq_some_iff.1 h).1
theorem ltm_of_some {α β : Type} {f : α → β} {l : List α} {i : Nat} {x : α} (h : l[i]? = some x) : i < (l.map f).length := by rw [List.length_map]; exact lt_of_some h
end

end Go.Proofs.YtglilpigoocgeaaGreatDoor.V
namespace Go.Proofs.YtglilpigoocgeaaGreatDoor.V
open Go
set_option linter.unusedVariables false
set_option linter.unusedSimpArgs false

def finOv (ops : Array Oper) : Nat → List MOp → List (Nat × Slot) → List (Nat × Slot)
  | _, [], ov => ov
  | i, m :: l, ov => finOv ops (i + 1) l (puT ov ((ops[i]?).bind (·.dst)) m.r)
def finHv : List MOp → List (Nat × VO) → List (Nat × VO)
  | [], hv => hv
  | m :: l, hv => finHv l (updsH hv m.news)
theorem finT_tl {ops : Array Oper} {n : Nat} : ∀ {plan : List MOp} {i : Nat} {ov : List (Nat × Slot)}, finT ops i plan (tl ov n) = tl (finOv ops i plan ov) n
  | [], _, _ => rfl
  | m :: l, i, ov => by simp only [finT, finOv]; rw [put_puT]; exact finT_tl
theorem finH_hp : ∀ {plan : List MOp} {hv : List (Nat × VO)}, finH plan (hp hv) = hp (finHv plan hv)
  | [], _ => rfl
  | m :: l, hv => by simp only [finH, finHv]; rw [updAll_hp]; exact finH_hp
def planFree (hv : List (Nat × VO)) (plan : List MOp) : Bool := plan.all fun m => (keys m.news).all fun k => match hp hv k with | .gone => true | _ => false
theorem planFree_of {hv : List (Nat × VO)} {plan : List MOp} (h : planFree hv plan = true) : ∀ (i : Nat) (m : MOp), plan[i]? = some m → ∀ k ∈ keys m.news, hp hv k = .gone := by
  intro i m hm k hk
  simp only [planFree, List.all_eq_true] at h
  have := h m (List.mem_of_getElem? hm) k hk
  cases hh : hp hv k with
  | gone => rfl
  | var cs => rw [hh] at this; simp at this
  | row n es dp g ver => rw [hh] at this; simp at this

/-- What an operation of the region may lean on, wherever it comes. -/
structure Agr (m : MOp) (n : Nat) (ov : List (Nat × Slot)) (hv : List (Nat × VO)) (t : List Slot) (h : Heap) : Prop where
  rd : ∀ j ∈ m.reads, getT t j = getT (tl ov n) j
  ob : ∀ k ∈ m.objs, h k = hp hv k
  gn : ∀ k ∈ keys m.news, h k = .gone
section
variable {m : MOp} {n : Nat} {ov : List (Nat × Slot)} {hv : List (Nat × VO)} {t : List Slot} {hh : Heap}
theorem Agr.e (A : Agr m n ov hv t hh) {i : Nat} {y : TV} (hj : m.reads.contains i = true) (hb : Nat.blt i n = true) (hl : lookT ov i = .t y) : Ev t (.tmp i) y :=
  (A.rd i (by simpa using hj)).trans (eg hb hl)
theorem Agr.rd1 (A : Agr m n ov hv t hh) {i : Nat} {y : Slot} (hj : m.reads.contains i = true) (hb : Nat.blt i n = true) (hl : lookT ov i = y) : getT t i = y :=
  (A.rd i (by simpa using hj)).trans (eg hb hl)
theorem Agr.h (A : Agr m n ov hv t hh) {k : Nat} {x : VO} (hk : m.objs.contains k = true) (hx : hp hv k = x) : hh k = x := (A.ob k (by simpa using hk)).trans hx
theorem Agr.g (A : Agr m n ov hv t hh) {k : Nat} (hk : (keys m.news).contains k = true) : hh k = .gone := A.gn k (by simpa using hk)
end

def EachO (P : Program) (ops : Array Oper) (n : Nat) (ov : List (Nat × Slot)) (hv : List (Nat × VO)) : List Oper → List MOp → Prop
  | _, [] => True
  | [], _ :: _ => False
  | o :: ol, m :: l => (GOk ops (tl ov n) o m ∧ (m.skip = false → ∀ t h, Agr m n ov hv t h → Does P o ⟨t, h⟩ ⟨putT t o.dst m.r, updAll h m.news⟩)) ∧ EachO P ops n ov hv ol l
theorem eachO_op {P : Program} {ops : Array Oper} {n : Nat} {ov : List (Nat × Slot)} {hv : List (Nat × VO)} : ∀ {plan : List MOp} {ol : List Oper} {i : Nat}, (∀ j, j < ol.length → ops[i + j]? = ol[j]?) → EachO P ops n ov hv ol plan → EachOp P ops n (tl ov n) (hp hv) i plan
  | [], _, _, _, _ => trivial
  | m :: l, [], _, _, h => h.elim
  | m :: l, o :: ol, i, hl, h => by
    obtain ⟨hd, h2⟩ := h
    refine ⟨fun o' ho' => ?_, eachO_op (ol := ol) (fun j hj => ?_) h2⟩
    · have h0 : ops[i]? = some o := by simpa using hl 0 (by simp)
      rw [h0] at ho'
      injection ho' with ho'
      subst ho'
      exact ⟨hd.1, fun hs t h _ hr hb hn => hd.2 hs t h ⟨hr, hb, hn⟩⟩
    · have := hl (j + 1) (by simp; omega)
      rwa [← Nat.add_assoc, Nat.add_right_comm, List.getElem?_cons_succ] at this
theorem dy {P : Program} {o : Oper} {t : List Slot} {h : Heap} {r : Slot} (hy : Yield P o t h r) : Does P o ⟨t, h⟩ ⟨putT t o.dst r, updAll h []⟩ := hy.one
theorem dr {P : Program} {o : Oper} {t : List Slot} {h : Heap} {r : Slot} {news : List (Nat × VO)} (hy : DoesR P o t h r news) : Does P o ⟨t, h⟩ ⟨putT t o.dst r, updAll h news⟩ := hy.does

section
variable {P : Program} {ov ovF : List (Nat × Slot)} {n : Nat} {hv hvF : List (Nat × VO)} {Q : Exit → St → Prop}
theorem v_drw {id : Nat} {l : List Oper} (plan : List MOp) (hmix : P.follows .mixedOrders = true) (hok : drawOk l.toArray plan n = true) (hov : finOv l.toArray 0 plan ov = ovF) (hhv : finHv plan hv = hvF) (hfree : planFree hv plan = true)
    (hops : EachO P l.toArray n ovF hvF l plan) (htail : OpsL P l.toArray (l.drop plan.length) (mk ovF n hvF) (fun s => Q .normal s)) : VWp P (.region id l.toArray true) Q (mk ov n hv) := by
  have hlen : plan.length ≤ l.length := by have := (drawOk_of hok).size; simpa using this
  refine v_draw plan hmix (by rw [tl_len]; exact hok) (planFree_of hfree) ?_ ?_
  · show EachOp P _ (tl ov n).length (finT _ 0 plan (tl ov n)) (finH plan (hp hv)) 0 plan
    rw [tl_len, finT_tl, finH_hp, hov, hhv]
    exact eachO_op (ol := l) (fun j _ => by simp) hops
  · show Ops P _ _ ⟨finT _ 0 plan (tl ov n), finH plan (hp hv)⟩ _
    rw [finT_tl, finH_hp, hov, hhv]
    have := ops_of_list (ops := l.toArray) (l.drop plan.length) plan.length _ (fun j hj => by simp) htail
    simpa using this

theorem zcallA {o : Oper} {t : List Slot} {h : Heap} {f : FuncId} {args : Array Operand} {ats : Array TypeId} {as : List Arg} {res : List DV} {R : List Nat} (k : Nat) (r : Slot) (E' : List (Nat × VO)) (ho : o.op = .call { callee := .value (.func f), args := args, argTypes := ats })
    (htr : Tr P f as res) (ha : ArgsV t h args.toList as R []) (hs : simpleR res = true) (hfree : ∀ i, i < (objsR res).length → h (k + i) = .gone) (hr : resSlot k res = r) (hE : newsAt k (objsR res) = E') :
    Does P o ⟨t, h⟩ ⟨putT t o.dst r, updAll h E'⟩ := by
  rw [← hr, ← hE]
  exact does_call k ho htr ha List.nodup_nil (fun r _ => by simp [keys]) hs hfree
theorem free0 {h : Heap} {k : Nat} {res : List DV} (h0 : objsR res = []) : ∀ i, i < (objsR res).length → h (k + i) = .gone := by rw [h0]; intro i hi; simp at hi
theorem Agr.free {m : MOp} {t : List Slot} {h : Heap} {k : Nat} {res : List DV} (A : Agr m n ov hv t h) (hE : m.news = newsAt k (objsR res)) : ∀ i, i < (objsR res).length → h (k + i) = .gone := fun i hi => A.gn _ (by rw [hE, newsAt_keys]; omega)
end

/-- An operation of a drawn region: without a guard; under one that is met; under one that is not. -/
theorem gN {P : Program} {ops : Array Oper} {tF : List Slot} {o : Oper} {m : MOp} {n : Nat} {ov : List (Nat × Slot)} {hv : List (Nat × VO)} (hg : o.guard = none) (hs : m.skip = false) (hd : ∀ t h, Agr m n ov hv t h → Does P o ⟨t, h⟩ ⟨putT t o.dst m.r, updAll h m.news⟩) :
    GOk ops tF o m ∧ (m.skip = false → ∀ t h, Agr m n ov hv t h → Does P o ⟨t, h⟩ ⟨putT t o.dst m.r, updAll h m.news⟩) := ⟨by unfold GOk; rw [hg]; exact hs, fun _ => hd⟩
theorem gY {P : Program} {ops : Array Oper} {o oj : Oper} {m : MOp} {n : Nat} {ov : List (Nat × Slot)} {hv : List (Nat × VO)} {j d : Nat} {want b : Bool} (hg : o.guard = some (j, want)) (hj : ops[j]? = some oj) (hdj : oj.dst = some d) (hr : m.reads.contains d = true) (hs : m.skip = false)
    (hb : getT (tl ov n) d = .t ⟨false, [.d (.lf (.bool b))]⟩) (hw : b = want) (hd : ∀ t h, Agr m n ov hv t h → Does P o ⟨t, h⟩ ⟨putT t o.dst m.r, updAll h m.news⟩) :
    GOk ops (tl ov n) o m ∧ (m.skip = false → ∀ t h, Agr m n ov hv t h → Does P o ⟨t, h⟩ ⟨putT t o.dst m.r, updAll h m.news⟩) :=
  ⟨by unfold GOk; rw [hg]; exact ⟨oj, d, hj, hdj, by simpa using hr, .inl ⟨b, hb, by rw [hs]; simpa using hw⟩, fun e => by rw [hs] at e; cases e⟩, fun _ => hd⟩
theorem gZ {P : Program} {ops : Array Oper} {o oj : Oper} {m : MOp} {n : Nat} {ov : List (Nat × Slot)} {hv : List (Nat × VO)} {j d : Nat} {want b : Bool} (hg : o.guard = some (j, want)) (hj : ops[j]? = some oj) (hdj : oj.dst = some d) (hr : m.reads.contains d = true) (hs : m.skip = true) (h1 : m.r = .tu []) (h2 : m.news = [])
    (hb : getT (tl ov n) d = .t ⟨false, [.d (.lf (.bool b))]⟩) (hw : b = !want) :
    GOk ops (tl ov n) o m ∧ (m.skip = false → ∀ t h, Agr m n ov hv t h → Does P o ⟨t, h⟩ ⟨putT t o.dst m.r, updAll h m.news⟩) :=
  ⟨by unfold GOk; rw [hg]; exact ⟨oj, d, hj, hdj, by simpa using hr, .inl ⟨b, hb, by rw [hs]; simpa using hw⟩, fun _ => ⟨h1, h2⟩⟩, fun e => by rw [hs] at e; cases e⟩
theorem gZ0 {P : Program} {ops : Array Oper} {o oj : Oper} {m : MOp} {n : Nat} {ov : List (Nat × Slot)} {hv : List (Nat × VO)} {j d : Nat} {want : Bool} (hg : o.guard = some (j, want)) (hj : ops[j]? = some oj) (hdj : oj.dst = some d) (hr : m.reads.contains d = true) (hs : m.skip = true) (h1 : m.r = .tu []) (h2 : m.news = [])
    (hb : getT (tl ov n) d = .tu []) :
    GOk ops (tl ov n) o m ∧ (m.skip = false → ∀ t h, Agr m n ov hv t h → Does P o ⟨t, h⟩ ⟨putT t o.dst m.r, updAll h m.news⟩) :=
  ⟨by unfold GOk; rw [hg]; exact ⟨oj, d, hj, hdj, by simpa using hr, .inr ⟨hb, hs⟩, fun _ => ⟨h1, h2⟩⟩, fun e => by rw [hs] at e; cases e⟩

theorem c_same {P : Program} {T T2 : TypeId} {n : Int} {w : World} (hu : P.underlying T = some (.int .i64)) (hu2 : P.underlying T2 = some (.int .i64)) (h : IntKind.wrap .i64 n = n) : (convert T T2 (.int .i64 n)).run P w = .ok (.int .i64 n) w := by
  simp [convert, Go.underlying, hu, hu2, h, Conv.intToInt]

end Go.Proofs.YtglilpigoocgeaaGreatDoor.V
namespace Go.Proofs.YtglilpigoocgeaaGreatDoor.V
open Go
set_option linter.unusedVariables false
set_option linter.unusedSimpArgs false

section
variable {P : Program} {ops : Array Oper} {K : St → Prop} {o : Oper} {l : List Oper} {ov : List (Nat × Slot)} {n : Nat} {hv : List (Nat × VO)}
theorem sw (k : Nat) (x : VO) (hy : Does P o (mk ov n hv) ⟨putT (tl ov n) o.dst .dead, updAll (hp hv) [(k, x)]⟩) (hg : o.guard = none) (hd : o.dst = none) (hk : OpsL P ops l (mk ov n ((k, x) :: hv)) K) : OpsL P ops (o :: l) (mk ov n hv) K :=
  s_d hy hg (by rw [hd]; rfl) upd_hp hk
theorem swk {G : List Nat} (k : Nat) (x : VO) (hy : Does P o (mk ov n hv) ⟨putT ((tl ov n).map (eraseS G)) o.dst .dead, updAll (letgo G (hp hv)) [(k, x)]⟩) (hg : o.guard = none) (hd : o.dst = none)
    (hk : OpsL P ops l (mk (eraseOv G ov) n ((k, x) :: eraseHv G hv)) K) : OpsL P ops (o :: l) (mk ov n hv) K :=
  s_d hy hg (by rw [hd, tl_erase]; rfl) (by rw [hp_erase]; exact upd_hp) hk
end
section
variable {P : Program} {o : Oper} {t : List Slot} {h : Heap} {tab : List TyI}
/-- A store into an element of a row, which takes rows in. -/
theorem zsg {T : TypeId} {x v : Operand} {k g i j n ver : Nat} {es es' : List (List Dat)} {e ds : List Dat} {y : TV} {G : List Nat} (hT : TabOk P tab) (ho : o.op = .store T x v) (hx : Ev t x ⟨false, [.ep k g i j]⟩) (hh : h k = .row n es true g ver)
    (he : es[i]? = some e) (hv : Ev t v y) (hy : tvOk y = true) (ha : AbsD h y.cs ds G) (hG : (nodupB G && !G.contains k) = true) (hk : ((ty tab T).ok && Nat.beq y.cs.length (ty tab T).sz && Nat.ble (j + ds.length) e.length) = true)
    (hr : es.set i (patch e j ds) = es') : Does P o ⟨t, h⟩ ⟨putT (t.map (eraseS G)) o.dst .dead, updAll (letgo G h) [(k, .row n es' true g (ver + 1))]⟩ := by
  simp only [Bool.and_eq_true] at hk hG
  obtain ⟨h1, h2⟩ := tvOk_of hy
  rw [← hr]
  exact w_strow (bump := 1) hT ho hk.1.1 hx hh he hv h1 h2 (Nat.eq_of_beq_eq_true hk.1.2) ha (nodupB_of hG.1) (by have := hG.2; simpa using this) (.inl rfl) (Nat.le_of_ble_eq_true hk.2) (.inl Nat.one_pos)
end

section
variable {α : Type} {f : α → List Dat} {xs : List α} {z : List Dat} {i : Nat} {x : α}
def fill (f : α → List Dat) (xs : List α) (z : List Dat) (i : Nat) : List (List Dat) := (xs.take i).map f ++ List.replicate (xs.length - i) z
theorem fill0 : List.replicate (xs.map f).length z = fill f xs z 0 := by simp [fill]
theorem fill_len (hi : i ≤ xs.length) : (fill f xs z i).length = xs.length := by simp [fill]; omega
theorem fill_get (hx : xs[i]? = some x) : (fill f xs z i)[i]? = some z := by
  have hi := lt_of_some hx
  simp only [fill]
  rw [List.getElem?_append_right (by simp; omega), List.getElem?_replicate]
  simp; omega
theorem fill_set (hx : xs[i]? = some x) : (fill f xs z i).set i (f x) = fill f xs z (i + 1) := by
  have hi := lt_of_some hx
  simp only [fill]
  rw [List.set_append_right _ _ (by simp; omega), List.take_add_one, hx, List.map_append, List.append_assoc]
  have e1 : i - ((xs.take i).map f).length = 0 := by simp; omega
  have e2 : xs.length - i = (xs.length - (i + 1)) + 1 := by omega
  rw [e1, e2, List.replicate_succ]
  simp
theorem fill_end (hi : i = xs.length) : ((fill f xs z i).drop 0).take (xs.map f).length = xs.map f := by subst hi; simp [fill, List.take_of_length_le]
theorem fill_le (hi : i = xs.length) : 0 + (xs.map f).length ≤ (fill f xs z i).length := by subst hi; simp [fill]
theorem mkok {b : Nat} (h : xs.length ≤ 4194304) (hb : Nat.ble b 67108864 = true) : (xs.map f).length * b ≤ 281474976710656 := by
  rw [List.length_map]
  have := Nat.le_of_ble_eq_true hb
  exact Nat.le_trans (Nat.mul_le_mul h this) (by decide)
end
/-! ### results told by a condition -/
abbrev resI (Ψ : Int → Prop) : List DV → Prop := fun res => ∃ r, Ψ r ∧ res = [one (dI r)]
section
variable {P : Program} {ops : Array Oper} {K : St → Prop} {o : Oper} {l : List Oper} {ov : List (Nat × Slot)} {n : Nat} {hv : List (Nat × VO)} {Ψ : Int → Prop}
theorem zcallX {f : FuncId} {args : Array Operand} {ats : Array TypeId} {as : List Arg} {R : List Nat} (ho : o.op = .call { callee := .value (.func f), args := args, argTypes := ats })
    (htr : TrX P f as (resI Ψ)) (ha : ArgsV (tl ov n) (hp hv) args.toList as R []) : DoesS P o (mk ov n hv) (fun st => ∃ res, resI Ψ res ∧ st = ⟨putT (tl ov n) o.dst (resSlot 0 res), hp hv⟩) :=
  does_callX 0 ho htr ha List.nodup_nil (fun r _ => by simp [keys]) fun res ⟨r, _, e⟩ => by subst e; exact ⟨rfl, rfl⟩
theorem sxI {d : Nat} (hy : DoesS P o (mk ov n hv) (fun st => ∃ res, resI Ψ res ∧ st = ⟨putT (tl ov n) o.dst (resSlot 0 res), hp hv⟩)) (hg : o.guard = none) (hd : o.dst = some d)
    (hk : ∀ r, Ψ r → OpsL P ops l (mk ((d, sc (dI r)) :: ov) n hv) K) : OpsL P ops (o :: l) (mk ov n hv) K :=
  s_s hy hg fun st' ⟨res, ⟨r, hr, e⟩, e2⟩ => by
    subst e2
    subst e
    rw [hd, put_tl]
    exact hk r hr
theorem post_retX {tab : List TyI} {fn : Func} {args : List Arg} {Φ : List DV → Prop} {s : St} {K G : List Nat} (res : List DV) (h0 : Φ res) (h1 : ResV tab s.t s.h fn.results.toList res K) (h2 : OutA s.h 0 args G) (h3 : nodupB (K ++ G) = true) : postX tab fn args Φ .ret s :=
  ⟨res, K, G, h0, h1, h2, nodupB_of h3⟩
theorem trX_go {tab : List TyI} (hT : TabOk P tab) {f : FuncId} {fn : Func} {c : Code} {args : List Arg} {Φ : List DV → Prop} (hf : P.funcs[f]? = some fn) (hname : (fn.name == "runtime.NumGoroutine") = false) (hb : fn.body = some c) (hs : simpleA args = true)
    (hn : fn.ntmps = n) (hl : Nat.ble args.length n = true) (ho : enumT 0 (injA 0 args) = ov) (hh : newsAt 0 (objsA args) = hv)
    (hwp : VWp P c (postX tab fn args Φ) (mk ov n hv)) : TrX P f args Φ := by
  refine trX_of hT hf hname hb hs ?_
  rw [init_mk (by rw [injA_len, hn]; simpa using hl) injA_len, ho, hh, hn]
  exact hwp
end

theorem patch_all {z ds : List Dat} (h : Nat.beq ds.length z.length = true) : patch z 0 ds = ds := by
  simp only [patch, List.take_zero, List.nil_append, Nat.zero_add, Nat.eq_of_beq_eq_true h, List.drop_length, List.append_nil]
theorem take_all {l : List (List Dat)} : (l.drop 0).take l.length = l := by simp
theorem le_all {l : List (List Dat)} : 0 + l.length ≤ l.length := by simp

end Go.Proofs.YtglilpigoocgeaaGreatDoor.V
namespace Go.Proofs.YtglilpigoocgeaaGreatDoor.V
open Go
set_option linter.unusedVariables false

def fitU {α : Type} (x : α) : Prop := True
def fitS (s : ByteArray) : Prop := s.size ≤ 2097152
def fitL {α : Type} (f : α → Prop) (xs : List α) : Prop := xs.length ≤ 4194304 ∧ ∀ x ∈ xs, f x
def bndU {α : Type} (x : α) : Prop := True
def bndS (s : ByteArray) : Prop := s.size ≤ 9223372036854775807
def bndL {α : Type} (f : α → Prop) (xs : List α) : Prop := xs.length ≤ 9223372036854775807 ∧ ∀ x ∈ xs, f x
def wtU {α : Type} (x : α) : Nat := 0
def wtL {α : Type} (f : α → Nat) (xs : List α) : Nat := xs.length + (xs.map f).sum
section
variable {α : Type} {f : α → Nat} {p : α → Prop} {xs : List α} {i : Nat} {x : α}
def wtTo (f : α → Nat) (xs : List α) (i : Nat) : Nat := ((xs.take i).map f).sum
def allTo (p : α → Prop) (xs : List α) (i : Nat) : Prop := ∀ x ∈ xs.take i, p x
theorem wtTo_succ (h : xs[i]? = some x) : wtTo f xs (i + 1) = wtTo f xs i + f x := by
  simp only [wtTo]; rw [List.take_add_one, h, List.map_append, List.sum_append]; simp
theorem wtTo_end (h : i = xs.length) : wtL f xs = xs.length + wtTo f xs i := by subst h; simp [wtL, wtTo]
theorem allTo_zero : allTo p xs 0 := by intro x hx; simp at hx
theorem allTo_succ (h : xs[i]? = some x) (ha : allTo p xs i) (hx : p x) : allTo p xs (i + 1) := by
  intro y hy
  rw [List.take_add_one, h] at hy
  simp only [Option.toList_some, List.mem_append, List.mem_singleton] at hy
  rcases hy with hy | rfl
  · exact ha y hy
  · exact hx
theorem allTo_end (h : i = xs.length) (ha : allTo p xs i) : ∀ x ∈ xs, p x := by
  subst h; intro x hx; exact ha x (by simpa using hx)
theorem wtL_u : wtL (wtU (α := α)) xs = xs.length := by
  have : (xs.map (wtU (α := α))).sum = 0 := by induction xs <;> simp_all [wtU]
  simp [wtL, this]
end

end Go.Proofs.YtglilpigoocgeaaGreatDoor.V
namespace Go.Proofs.YtglilpigoocgeaaGreatDoor.V
open Go
set_option linter.unusedVariables false
set_option linter.unusedSimpArgs false

section
variable {P : Program} {T T2 : TypeId} {w : World}
theorem b_rem10 {k : Nat} : (binOp .rem T (.int .i64 (k : Int)) (.int .i64 10)).run P w = .ok (.int .i64 ((k % 10 : Nat) : Int)) w := by
  rw [binOp_rem]; simp [Op.intDiv]; rfl
theorem b_quo10 {k : Nat} (h : k < 9223372036854775808) : (binOp .quo T (.int .i64 (k : Int)) (.int .i64 10)).run P w = .ok (.int .i64 ((k / 10 : Nat) : Int)) w := by
  rw [binOp_quo]
  have e : ((k : Int).tdiv 10) = ((k / 10 : Nat) : Int) := rfl
  have e2 := wr_i64 (n := ((k / 10 : Nat) : Int)) (by omega) (by omega)
  simp only [Op.intDiv]
  rw [if_neg (by decide), e, e2]; rfl
theorem wr_u8 {n : Int} (h1 : 0 ≤ n) (h2 : n < 256) : IntKind.wrap .u8 n = n := by
  have e : IntKind.wrap .u8 n = n % 256 := by simp [IntKind.wrap, IntKind.signed, IntKind.bits]
  rw [e]; omega
theorem c_u8 {n : Int} (hu : P.underlying T = some (.int .i64)) (hu2 : P.underlying T2 = some (.int .u8)) (h1 : 0 ≤ n) (h2 : n < 256) : (convert T T2 (.int .i64 n)).run P w = .ok (.int .u8 n) w := by
  simp [convert, Go.underlying, hu, hu2, wr_u8 h1 h2, Conv.intToInt]
end

section
variable {P : Program} {ops : Array Oper} {K : St → Prop} {o : Oper} {l : List Oper} {ov : List (Nat × Slot)} {n : Nat} {hv : List (Nat × VO)} {tab : List TyI}
theorem sb {d : Nat} (k : Nat) (r : Slot) (x : VO) (hy : DoesK P o (tl ov n) (hp hv) r [(k, x)] []) (hg : o.guard = none) (hd : o.dst = some d) (hk : OpsL P ops l (mk ((d, r) :: ov) n ((k, x) :: hv)) K) : OpsL P ops (o :: l) (mk ov n hv) K :=
  s_k hy hg (by rw [map_eraseS_nil, hd]; exact put_tl) (by rw [letgo_nil]; exact upd_hp) hk
theorem zbs {t : List Slot} {h : Heap} {T T2 el : TypeId} {x : Operand} {k g len room ver : Nat} {es : List (List Dat)} {dp : Bool} (bs : List Int) (hT : TabOk P tab) (ho : o.op = .convert T T2 x) (hk : (ty tab T).k = .sl el) (hk2 : (ty tab T2).k = .str)
    (hu8 : P.underlying el = some (.int .u8)) (hx : Ev t x ⟨false, [.sr k g 0 len room]⟩) (hh : h k = .row 1 es dp g ver) (hlen : es.length = len) (hes : es = bs.map fun b => [.lf (.int .u8 b)]) :
    Yield P o t h (.t ⟨false, [.d (.lf (.string (strOfNums bs)))]⟩) := y_bstr hT ho hk hk2 hu8 hx hh hlen hes
/-- A slice literal: its elements told. -/
theorem zbu {t : List Slot} {h : Heap} {T : TypeId} {len el k n : Nat} {parts : Array (Nat × Operand)} {es : List (List Dat)} {K : List Nat} (hT : TabOk P tab) (ho : o.op = .buildSlice T len parts) (hk : (ty tab T).k = .sl el) (hel : elOk (ty tab el) n = true)
    (hlen : Nat.beq parts.size len = true) (hp : PartsD t h n 0 parts.toList es K) (hK : (nodupB K && !K.contains k && Nat.ble (len * n) 16777216) = true) (hg : h k = .gone) :
    DoesK P o t h (.t ⟨false, [.sr k 1 0 len len]⟩) [(k, .row n es true 1 0)] K := by
  obtain ⟨h1, h2, _⟩ := elOk_of hel
  subst h2
  simp only [Bool.and_eq_true] at hK
  exact k_bslice hT ho hk h1 (Nat.eq_of_beq_eq_true hlen) hp (nodupB_of hK.1.1) (Nat.le_of_ble_eq_true hK.2) hg (by have := hK.1.2; simpa using this)
theorem pd {t : List Slot} {h : Heap} {n k : Nat} {x : Operand} {y : TV} {ds : List Dat} {rest : List (Nat × Operand)} {es : List (List Dat)} {K1 K2 : List Nat} (he : Ev t x y) (hy : tvOk y = true) (ha : AbsD h y.cs ds K1) (hl : Nat.beq ds.length n = true)
    (r : PartsD t h n (k + 1) rest es K2) : PartsD t h n k ((k, x) :: rest) (ds :: es) (K1 ++ K2) := .cons he (tvOk_of hy).1 ha (Nat.eq_of_beq_eq_true hl) r
theorem pd0 {t : List Slot} {h : Heap} {n k : Nat} {x : Operand} {y : TV} {ds : List Dat} {rest : List (Nat × Operand)} {es : List (List Dat)} {K2 : List Nat} (he : Ev t x y) (hy : tvOk y = true) (ha : AbsD h y.cs ds []) (hl : Nat.beq ds.length n = true)
    (r : PartsD t h n (k + 1) rest es K2) : PartsD t h n k ((k, x) :: rest) (ds :: es) K2 := .cons (K1 := []) he (tvOk_of hy).1 ha (Nat.eq_of_beq_eq_true hl) r
end

def mtd (k : Nat) (out : ByteArray) : ByteArray := if h : 0 < k then mtd (k / 10) (strOfNums [48 + ((k % 10 : Nat) : Int)] ++ out) else out
  termination_by k
  decreasing_by omega
theorem mtd_pos {k : Nat} {out : ByteArray} (h : 0 < k) : mtd k out = mtd (k / 10) (strOfNums [48 + ((k % 10 : Nat) : Int)] ++ out) := by rw [mtd, dif_pos h]
theorem mtd_zero {out : ByteArray} : mtd 0 out = out := by rw [mtd, dif_neg (by omega)]
def mt (k : Int) : ByteArray := if k ≤ 0 then ⟨#[109, 48]⟩ else ⟨#[109]⟩ ++ mtd k.toNat ⟨#[]⟩
theorem str1_size {x : Int} {out : ByteArray} : (strOfNums [x] ++ out).size = 1 + out.size := by
  rw [ByteArray.size_append, strOfNums_size]; rfl

end Go.Proofs.YtglilpigoocgeaaGreatDoor.V
namespace Go.Proofs.YtglilpigoocgeaaGreatDoor.V
open Go
set_option linter.unusedVariables false
set_option linter.unusedSimpArgs false

def nx (k : Int) : Int := IntKind.wrap .i64 (k + 1)
theorem wrap_lt (n : Int) : IntKind.wrap .i64 n < 9223372036854775808 := by
  have e : IntKind.wrap .i64 n = if 9223372036854775808 ≤ n % 18446744073709551616 then n % 18446744073709551616 - 18446744073709551616 else n % 18446744073709551616 := by
    simp [IntKind.wrap, IntKind.signed, IntKind.bits]
  rw [e]; split <;> omega
theorem nx_lt (k : Int) : nx k < 9223372036854775808 := wrap_lt _
theorem nx_eq {k : Int} (h0 : 0 ≤ k) (h1 : k < 9223372036854775807) : nx k = k + 1 := wr_i64 (by omega) (by omega)
theorem b_nx {P : Program} {T : TypeId} {w : World} {k : Int} : (binOp .add T (.int .i64 k) (.int .i64 1)).run P w = .ok (.int .i64 (nx k)) w := b_add

def mkI (x : Int) (k : Int) : Int × Int := (k, nx k)
def mkS (x : ByteArray) (k : Int) : ByteArray × Int := (mt k, nx k)
theorem mkI_lt : ∀ x k, k < 9223372036854775808 → (mkI x k).2 < 9223372036854775808 := fun _ k _ => nx_lt k
theorem mkS_lt : ∀ x k, k < 9223372036854775808 → (mkS x k).2 < 9223372036854775808 := fun _ k _ => nx_lt k

section
variable {P : Program} {o : Oper} {t : List Slot} {h : Heap} {tab : List TyI}
/-- A store of plain cells over plain cells. -/
theorem zsr0 {T : TypeId} {x v : Operand} {k g i j n ver : Nat} {es es' : List (List Dat)} {dp : Bool} {e ds : List Dat} {y : TV} (hT : TabOk P tab) (ho : o.op = .store T x v) (hx : Ev t x ⟨false, [.ep k g i j]⟩) (hh : h k = .row n es dp g ver)
    (he : es[i]? = some e) (hv : Ev t v y) (hy : tvOk y = true) (ha : AbsD h y.cs ds []) (hk : ((ty tab T).ok && Nat.beq y.cs.length (ty tab T).sz && Nat.ble (j + ds.length) e.length) = true)
    (hb : ((e.drop j).take ds.length).all isLf = true) (hr : es.set i (patch e j ds) = es') :
    Does P o ⟨t, h⟩ ⟨putT t o.dst .dead, updAll h [(k, .row n es' dp g ver)]⟩ := zsr (b := 0) hT ho hx hh he hv hy ha hk (.inr ⟨rfl, hb⟩) hr
end

section
variable {α : Type} {f : α → Int → α × Int} {xs : List α} {k : Int} {i : Nat} {x : α} {c : α → List Dat}
def mkL (f : α → Int → α × Int) : List α → Int → List α × Int
  | [], k => ([], k)
  | x :: l, k => ((f x k).1 :: (mkL f l (f x k).2).1, (mkL f l (f x k).2).2)
def mkTo (f : α → Int → α × Int) (xs : List α) (k : Int) (i : Nat) : List α := (mkL f (xs.take i) k).1 ++ xs.drop i
def kTo (f : α → Int → α × Int) (xs : List α) (k : Int) (i : Nat) : Int := (mkL f (xs.take i) k).2
theorem mkL_len : ∀ {xs : List α} {k : Int}, (mkL f xs k).1.length = xs.length
  | [], _ => rfl
  | x :: l, k => by simp [mkL, mkL_len]
theorem mkL_snoc : ∀ {xs : List α} {k : Int}, mkL f (xs ++ [x]) k = ((mkL f xs k).1 ++ [(f x (mkL f xs k).2).1], (f x (mkL f xs k).2).2)
  | [], k => rfl
  | y :: l, k => by simp only [List.cons_append, mkL]; rw [mkL_snoc]
theorem mkTo_len : (mkTo f xs k i).length = xs.length := by
  simp only [mkTo, List.length_append, mkL_len, List.length_take, List.length_drop]; omega
theorem mkTo_zero : mkTo f xs k 0 = xs := by simp [mkTo, mkL]
theorem kTo_zero : kTo f xs k 0 = k := by simp [kTo, mkL]
theorem kTo_succ (h : xs[i]? = some x) : kTo f xs k (i + 1) = (f x (kTo f xs k i)).2 := by
  simp only [kTo]; rw [List.take_add_one, h]; simp only [Option.toList_some]; rw [mkL_snoc]
theorem mkTo_get (h : xs[i]? = some x) : ((mkTo f xs k i).map c)[i]? = some (c x) := by
  have hi := lt_of_some h
  rw [List.getElem?_map, mkTo, List.getElem?_append_right (by rw [mkL_len, List.length_take]; omega), mkL_len, List.length_take, Nat.min_eq_left (by omega), Nat.sub_self, List.getElem?_drop, Nat.add_zero, h]; rfl
theorem mkTo_set (h : xs[i]? = some x) : ((mkTo f xs k i).map c).set i (c (f x (kTo f xs k i)).1) = (mkTo f xs k (i + 1)).map c := by
  have hi := lt_of_some h
  rw [← List.map_set]
  congr 1
  simp only [mkTo, kTo]
  rw [List.set_append_right _ _ (by rw [mkL_len, List.length_take]; omega), mkL_len, List.length_take, Nat.min_eq_left (by omega), Nat.sub_self, List.take_add_one, h]
  simp only [Option.toList_some]
  rw [mkL_snoc, List.append_assoc]
  congr 1
  have hx : xs[i] = x := (List.getElem?_eq_some_iff.1 h).2
  rw [List.drop_eq_getElem_cons hi, hx]; rfl
theorem mkTo_end (h : i = xs.length) : mkTo f xs k i = (mkL f xs k).1 := by subst h; simp [mkTo]
theorem kTo_end (h : i = xs.length) : kTo f xs k i = (mkL f xs k).2 := by subst h; simp [kTo]
theorem mkL_lt (hf : ∀ x k, k < 9223372036854775808 → (f x k).2 < 9223372036854775808) : ∀ {xs : List α} {k : Int}, k < 9223372036854775808 → (mkL f xs k).2 < 9223372036854775808
  | [], k, h => h
  | x :: l, k, h => mkL_lt hf (xs := l) (hf x k h)
theorem kTo_lt (hf : ∀ x k, k < 9223372036854775808 → (f x k).2 < 9223372036854775808) (h : k < 9223372036854775808) : kTo f xs k i < 9223372036854775808 := mkL_lt hf h
theorem sh1 {n n' : Nat} {l l' : List (List Dat)} : ∀ (q : Nat) m us, [Dat.sl n l][q]? = some (.sl m us) → ∃ m' us', [Dat.sl n' l'][q]? = some (.sl m' us') := by
  intro q m us h
  cases q with
  | zero => exact ⟨n', l', rfl⟩
  | succ q => simp at h
theorem set_get {l : List (List Dat)} {i : Nat} {e : List Dat} (h : i < l.length) : (l.set i e)[i]? = some e := by simp [h]
theorem mkTo_lt (h : xs[i]? = some x) : i < ((mkTo f xs k i).map c).length := by rw [List.length_map, mkTo_len]; exact lt_of_some h
end

end Go.Proofs.YtglilpigoocgeaaGreatDoor.V
namespace Go.Proofs.YtglilpigoocgeaaGreatDoor.V
open Go
set_option linter.unusedVariables false
set_option linter.unusedSimpArgs false

/-- A step of marks counts up, and no further than the weight allows. -/
def CntOk {α : Type} (f : α → Int → α × Int) (wt : α → Nat) : Prop :=
  ∀ x k, 0 ≤ k → k + 16 + 16 * (wt x : Int) < 4611686018427387904 → k ≤ (f x k).2 ∧ (f x k).2 ≤ k + 16 + 16 * (wt x : Int)
section
variable {α : Type} {f : α → Int → α × Int} {wt : α → Nat} {xs : List α} {k : Int} {i : Nat} {x : α}
theorem wtL_cons : wtL wt (x :: xs) = 1 + wt x + wtL wt xs := by simp [wtL]; omega
theorem mkL_ge (hf : CntOk f wt) : ∀ {xs : List α} {k : Int}, 0 ≤ k → k + 16 * (wtL wt xs : Int) < 4611686018427387904 → k ≤ (mkL f xs k).2 ∧ (mkL f xs k).2 ≤ k + 16 * (wtL wt xs : Int)
  | [], k, h0, h1 => by simp [mkL, wtL]
  | x :: l, k, h0, h1 => by
    rw [wtL_cons] at h1 ⊢
    simp only [mkL]
    have h2 := hf x k h0 (by omega)
    have h3 := mkL_ge hf (xs := l) (k := (f x k).2) (by omega) (by omega)
    omega
theorem wtL_le {C : Nat} : ∀ {xs : List α}, (∀ x ∈ xs, wt x ≤ C) → wtL wt xs ≤ xs.length * (1 + C)
  | [], _ => by simp [wtL]
  | x :: l, h => by
    have h1 := wtL_le (xs := l) fun y hy => h y (by simp [hy])
    have h2 := h x (by simp)
    rw [wtL_cons, List.length_cons, Nat.add_mul, Nat.one_mul]; omega
theorem wtL_le2 {C D : Nat} (hl : xs.length ≤ 4194304) (h : ∀ x ∈ xs, wt x ≤ C) (hD : 4194304 * (1 + C) = D) : wtL wt xs ≤ D := by
  rw [← hD]; exact Nat.le_trans (wtL_le h) (Nat.mul_le_mul_right _ hl)
theorem wtL_take : wtL wt (xs.take i) + wtL wt (xs.drop i) = wtL wt xs := by
  conv => rhs; rw [← List.take_append_drop i xs]
  simp only [wtL, List.length_append, List.map_append, List.sum_append]; omega
theorem kTo_ge (hf : CntOk f wt) (h0 : 0 ≤ k) (h1 : k + 16 * (wtL wt xs : Int) < 4611686018427387904) : k ≤ kTo f xs k i ∧ kTo f xs k i + 16 * (wtL wt (xs.drop i) : Int) ≤ k + 16 * (wtL wt xs : Int) := by
  have e := wtL_take (wt := wt) (xs := xs) (i := i)
  have := mkL_ge hf (xs := xs.take i) h0 (by omega)
  simp only [kTo]; omega
theorem drop_wt (h : xs[i]? = some x) : wtL wt (xs.drop i) = 1 + wt x + wtL wt (xs.drop (i + 1)) := by
  have hi := lt_of_some h
  have hx : xs[i] = x := (List.getElem?_eq_some_iff.1 h).2
  rw [List.drop_eq_getElem_cons hi, wtL_cons, hx]
theorem mkI_ok : CntOk mkI wtU := fun x k h0 h1 => by
  have := nx_eq h0 (by simp only [wtU] at h1; omega)
  simp only [mkI, wtU] at h1 ⊢; omega
theorem mkS_ok : CntOk mkS wtU := fun x k h0 h1 => by
  have := nx_eq h0 (by simp only [wtU] at h1; omega)
  simp only [mkS, wtU] at h1 ⊢; omega
/-- The marked list's elements, with their counters. -/
theorem mkL_get : ∀ {xs : List α} {k : Int} {i : Nat} {x : α}, xs[i]? = some x → (mkL f xs k).1[i]? = some (f x (kTo f xs k i)).1
  | [], k, i, x, h => by simp at h
  | y :: l, k, 0, x, h => by simp at h; subst h; simp [mkL, kTo]
  | y :: l, k, i + 1, x, h => by
    simp only [mkL, List.getElem?_cons_succ] at h ⊢
    rw [mkL_get h]
    simp [kTo, mkL]
end

end Go.Proofs.YtglilpigoocgeaaGreatDoor.V
namespace Go.Proofs.YtglilpigoocgeaaGreatDoor.V
open Go
set_option linter.unusedVariables false
set_option linter.unusedSimpArgs false

section
variable {P : Program} {o : Oper} {t : List Slot} {h : Heap} {tab : List TyI}
/-- Appended: plain elements, or nothing let go. -/
theorem zap {T T2 el : TypeId} {s x : Operand} {k g len m n ver : Nat} {es e es' : List (List Dat)} {dp : Bool} {y : VC} (hT : TabOk P tab) (ho : o.op = .call { callee := .builtin .append, args := #[s, x], argTypes := #[T, T2] })
    (hk : (ty tab T).k = .sl el) (hk2 : (ty tab T2).k = .sl el) (hel : elOk (ty tab el) n = true) (hs : Ev t s ⟨false, [.sr k g 0 len len]⟩) (hh : h k = .row n es dp g ver) (hlen : es.length = len) (hx : Ev t x ⟨false, [y]⟩)
    (hy : Src h n y e []) (hbig : (len + e.length) * (ty tab el).bytes ≤ 140737488355328) (hes : es ++ e = es') (hm : len + e.length = m) :
    Does P o ⟨t, h⟩ ⟨putT t o.dst (.t ⟨false, [.sr k (g + 1) 0 m m]⟩), updAll h [(k, .row n es' dp (g + 1) (ver + 1))]⟩ := by
  obtain ⟨h1, h2, h3, _⟩ := elOk_of hel
  rw [← hes, ← hm]
  have := w_append hT ho rfl hk hk2 h1 h2 hs hh hlen hx hy List.nodup_nil (by simp) (.inr rfl) h3 hbig
  rw [map_eraseS_nil, letgo_nil] at this
  exact this
/-- Appended: a row, which is let go. -/
theorem zapk {T T2 el : TypeId} {s x : Operand} {k g len m n ver : Nat} {es e es' : List (List Dat)} {y : VC} {G : List Nat} (hT : TabOk P tab) (ho : o.op = .call { callee := .builtin .append, args := #[s, x], argTypes := #[T, T2] })
    (hk : (ty tab T).k = .sl el) (hk2 : (ty tab T2).k = .sl el) (hel : elOk (ty tab el) n = true) (hs : Ev t s ⟨false, [.sr k g 0 len len]⟩) (hh : h k = .row n es true g ver) (hlen : es.length = len) (hx : Ev t x ⟨false, [y]⟩)
    (hy : Src h n y e G) (hG : (nodupB G && !G.contains k) = true) (hbig : (len + e.length) * (ty tab el).bytes ≤ 140737488355328) (hes : es ++ e = es') (hm : len + e.length = m) :
    Does P o ⟨t, h⟩ ⟨putT (t.map (eraseS G)) o.dst (.t ⟨false, [.sr k (g + 1) 0 m m]⟩), updAll (letgo G h) [(k, .row n es' true (g + 1) (ver + 1))]⟩ := by
  obtain ⟨h1, h2, h3, _⟩ := elOk_of hel
  simp only [Bool.and_eq_true] at hG
  rw [← hes, ← hm]
  exact w_append hT ho rfl hk hk2 h1 h2 hs hh hlen hx hy (nodupB_of hG.1) (by have := hG.2; simpa using this) (.inl rfl) h3 hbig
end
section
variable {P : Program} {ops : Array Oper} {K : St → Prop} {o : Oper} {l : List Oper} {ov : List (Nat × Slot)} {n : Nat} {hv : List (Nat × VO)}
/-- A step with a result that turns one object. -/
theorem sa {d : Nat} (k : Nat) (r : Slot) (x : VO) (hy : Does P o (mk ov n hv) ⟨putT (tl ov n) o.dst r, updAll (hp hv) [(k, x)]⟩) (hg : o.guard = none) (hd : o.dst = some d) (hk : OpsL P ops l (mk ((d, r) :: ov) n ((k, x) :: hv)) K) :
    OpsL P ops (o :: l) (mk ov n hv) K := s_d hy hg (by rw [hd]; exact put_tl) upd_hp hk
theorem sak {d : Nat} {G : List Nat} (k : Nat) (r : Slot) (x : VO) (hy : Does P o (mk ov n hv) ⟨putT ((tl ov n).map (eraseS G)) o.dst r, updAll (letgo G (hp hv)) [(k, x)]⟩) (hg : o.guard = none) (hd : o.dst = some d)
    (hk : OpsL P ops l (mk ((d, r) :: eraseOv G ov) n ((k, x) :: eraseHv G hv)) K) : OpsL P ops (o :: l) (mk ov n hv) K :=
  s_d hy hg (by rw [hd, tl_erase]; exact put_tl) (by rw [hp_erase]; exact upd_hp) hk
end

end Go.Proofs.YtglilpigoocgeaaGreatDoor.V
namespace Go.Proofs.YtglilpigoocgeaaGreatDoor.V
open Go
set_option linter.unusedVariables false
set_option linter.unusedSimpArgs false

section
variable {α β : Type} {r : β}
def bindv (e : α) (f : α → β) : β := f e
theorem bv_step {e v : α} {f : α → β} (hv : v = e) (hr : bindv e f = r) : f v = r := by subst hv; exact hr
theorem bf_t {c : Bool} {A B : β} (h : c = true) (hr : cond c A B = r) : A = r := by subst h; exact hr
theorem bf_f {c : Bool} {A B : β} (h : c = false) (hr : cond c A B = r) : B = r := by subst h; exact hr
def atL [Inhabited β] (xs : List α) (i : Nat) (f : α → β) : β := match xs[i]? with
  | some x => f x
  | none => default
theorem at_step [Inhabited β] {xs : List α} {i : Nat} {x : α} {f : α → β} (hx : xs[i]? = some x) (hr : atL xs i f = r) : f x = r := by
  simp only [atL, hx] at hr; exact hr
theorem dec_t {p : Prop} [Decidable p] (h : decide p = true) : p := of_decide_eq_true h
theorem dec_f {p : Prop} [Decidable p] (h : decide p = false) : ¬ p := of_decide_eq_false h
theorem not_t {b : Bool} (h : (!b) = true) : b = false := by cases b <;> simp_all
theorem not_f {b : Bool} (h : (!b) = false) : b = true := by cases b <;> simp_all
end
def w64 (n : Int) : Int := IntKind.wrap .i64 n

section
variable {P : Program} {ops : Array Oper} {K : St → Prop} {o oj : Oper} {l : List Oper} {ov : List (Nat × Slot)} {n : Nat} {hv : List (Nat × VO)}
theorem gr {j d : Nat} {want b : Bool} (hg : o.guard = some (j, want)) (hj : ops[j]? = some oj) (hd : oj.dst = some d) (hb : getT (tl ov n) d = .t ⟨false, [.d (.lf (.bool b))]⟩)
    (hw : b = want) (hk : OpsL P ops ({ o with guard := none } :: l) (mk ov n hv) K) : OpsL P ops (o :: l) (mk ov n hv) K := g_run hg hj hd hb hw hk
theorem gs {j d d' : Nat} {want b : Bool} (hg : o.guard = some (j, want)) (hj : ops[j]? = some oj) (hd : oj.dst = some d) (hb : getT (tl ov n) d = .t ⟨false, [.d (.lf (.bool b))]⟩)
    (hw : b = !want) (hd' : o.dst = some d') (hk : OpsL P ops l (mk ((d', .tu []) :: ov) n hv) K) : OpsL P ops (o :: l) (mk ov n hv) K :=
  g_skip hg hj hd hb hw (by rw [hd']; exact put_tl) hk
theorem gs0 {j d d' : Nat} {want : Bool} (hg : o.guard = some (j, want)) (hj : ops[j]? = some oj) (hd : oj.dst = some d) (hb : getT (tl ov n) d = .tu [])
    (hd' : o.dst = some d') (hk : OpsL P ops l (mk ((d', .tu []) :: ov) n hv) K) : OpsL P ops (o :: l) (mk ov n hv) K :=
  g_none hg hj hd hb (by rw [hd']; exact put_tl) hk
end

section
variable {P : Program} {Q : Exit → St → Prop} {st : St} {c : Operand} {x y : Code} {b : Bool}
theorem v_cT (hc : Ev st.t c ⟨false, [.d (.lf (.bool b))]⟩) (hb : b = true) (h : VWp P x Q st) : VWp P (.cond c x y) Q st := v_cond hc (fun _ => h) fun e => absurd (e.symm.trans hb) (by decide)
theorem v_cF (hc : Ev st.t c ⟨false, [.d (.lf (.bool b))]⟩) (hb : b = false) (h : VWp P y Q st) : VWp P (.cond c x y) Q st := v_cond hc (fun e => absurd (e.symm.trans hb) (by decide)) fun _ => h
end

section
variable {P : Program} {o : Oper} {t : List Slot} {h : Heap} {tab : List TyI}
theorem zpt {c x y : Operand} {b : Bool} {u : TV} (ho : o.op = .pick c x y) (hc : Ev t c ⟨false, [.d (.lf (.bool b))]⟩) (hb : b = true) (he : Ev t x u) : Yield P o t h (.t u) := by
  subst hb; exact y_pick ho hc he
theorem zpf {c x y : Operand} {b : Bool} {u : TV} (ho : o.op = .pick c x y) (hc : Ev t c ⟨false, [.d (.lf (.bool b))]⟩) (hb : b = false) (he : Ev t y u) : Yield P o t h (.t u) := by
  subst hb; exact y_pick ho hc he
/-- The length of what shows a list. -/
theorem zlm {α : Type} {f : α → List Dat} {xs : List α} {T : TypeId} {x : Operand} {y : VC} {e : Nat} (hT : TabOk P tab) (ho : o.op = .call { callee := .builtin .len, args := #[x], argTypes := #[T] }) (hk : (ty tab T).k = .sl e)
    (hx : Ev t x ⟨false, [y]⟩) (hl : Len h y (xs.map f).length) : Yield P o t h (.t ⟨false, [.d (dI (xs.length : Int))]⟩) := by
  have := y_len hT ho rfl hk hx hl
  rwa [List.length_map] at this
/-- The address of an element, its place an integer. -/
theorem zixI {T : TypeId} {x ix : Operand} {n el m : Nat} {i : Int} {es : List (List Dat)} (hT : TabOk P tab) (ho : o.op = .indexAddr T x ix) (hk : (ty tab T).k = .sl el) (hel : elOk (ty tab el) n = true)
    (hx : Ev t x ⟨false, [.d (.sl n es)]⟩) (hi : Ev t ix ⟨false, [.d (.lf (.int .i64 i))]⟩) (he : i = (m : Int)) (hm : m < es.length) : Yield P o t h (.t ⟨false, [.fe n es m 0]⟩) := by
  subst he; exact zix hT ho hk hel hx hi hm
theorem zisI {T : TypeId} {x ix : Operand} {k g off len room n ver el m j : Nat} {i : Int} {es : List (List Dat)} {dp : Bool} (hT : TabOk P tab) (ho : o.op = .indexAddr T x ix) (hk : (ty tab T).k = .sl el) (hel : elOk (ty tab el) n = true)
    (hx : Ev t x ⟨false, [.sr k g off len room]⟩) (hh : h k = .row n es dp g ver) (hi : Ev t ix ⟨false, [.d (.lf (.int .i64 i))]⟩) (he : i = (m : Int)) (hm : m < len) (hj : off + m = j) : Yield P o t h (.t ⟨false, [.ep k g j 0]⟩) := by
  subst he; exact zis hT ho hk hel hx hh hi hm hj
/-- Making a row that lets nothing go, anywhere. -/
theorem dk {r : Slot} {news : List (Nat × VO)} (hy : DoesK P o t h r news []) : Does P o ⟨t, h⟩ ⟨putT t o.dst r, updAll h news⟩ := by
  have := hy.does
  rwa [map_eraseS_nil, letgo_nil] at this
theorem pv {offs : List (Nat × Nat)} {i fo fT : Nat} {x : Operand} {y : TV} {rest : List (Nat × Operand)} {cs cs' : List VC} (hf : offs[i]? = some (fo, fT)) (he : Ev t x y) (hy : tvOk y = true)
    (hk : ((ty tab fT).ok && Nat.beq y.cs.length (ty tab fT).sz && Nat.ble (fo + y.cs.length) cs.length) = true) (r : PartsV tab t offs rest (patch cs fo y.cs) cs') : PartsV tab t offs ((i, x) :: rest) cs cs' := by
  simp only [Bool.and_eq_true] at hk
  exact .cons hf hk.1.1 he (tvOk_of hy).1 (Nat.eq_of_beq_eq_true hk.1.2) (Nat.le_of_ble_eq_true hk.2) r
theorem zbd {T : TypeId} {parts : Array (Nat × Operand)} {offs : List (Nat × Nat)} {cs : List VC} (hT : TabOk P tab) (ho : o.op = .build T parts) (hk : (ty tab T).k = .st offs)
    (hp : PartsV tab t offs parts.toList ((ty tab T).zero.map zvc) cs) : Yield P o t h (.t ⟨true, cs⟩) :=
  y_build hT ho hk hp fun c hc => by
    obtain ⟨d, _, rfl⟩ := List.mem_map.1 hc
    exact zvc_refs d
theorem b_w {T : TypeId} {a b : Int} {w : World} : (binOp .add T (.int .i64 a) (.int .i64 b)).run P w = .ok (.int .i64 (w64 (a + b))) w := b_add
theorem b_ws {T : TypeId} {a b : Int} {w : World} : (binOp .sub T (.int .i64 a) (.int .i64 b)).run P w = .ok (.int .i64 (w64 (a - b))) w := b_sub
end
section
variable {α : Type} {f : α → List Dat} {xs : List α} {x y : α} {i : Nat}
theorem le_len {l : List (List Dat)} {n : Nat} (h : n = l.length) : 0 + n ≤ l.length := by omega
theorem take_len {l : List (List Dat)} {n : Nat} (h : n = l.length) : (l.drop 0).take n = l := by subst h; exact take_all
theorem map_snoc : xs.map f ++ [f x] = (xs ++ [x]).map f := by simp
theorem map_app {ys : List α} : xs.map f ++ ys.map f = (xs ++ ys).map f := by simp
theorem map_set {d : List Dat} (hd : d = f y) : (xs.map f).set i d = (xs.set i y).map f := by subst hd; simp [List.map_set]
theorem len_snoc : (xs.map f).length + [f x].length = ((xs ++ [x]).map f).length := by simp
theorem len_app {ys : List α} : (xs.map f).length + (ys.map f).length = ((xs ++ ys).map f).length := by simp
theorem len_nil_app {ys : List α} : 0 + (ys.map f).length = (ys.map f).length := by simp
theorem ap_big {n m b : Nat} (h : n + m ≤ 33554432) (hb : Nat.ble b 4194304 = true) : (n + m) * b ≤ 140737488355328 := by
  exact Nat.le_trans (Nat.mul_le_mul h (Nat.le_of_ble_eq_true hb)) (by decide)
end
section
variable {P : Program} {ops : Array Oper} {K : St → Prop} {o : Oper} {l : List Oper} {ov : List (Nat × Slot)} {n : Nat} {hv : List (Nat × VO)}
/-- A row literal that takes rows in. -/
theorem sbk {d : Nat} {G : List Nat} (k : Nat) (r : Slot) (x : VO) (hy : DoesK P o (tl ov n) (hp hv) r [(k, x)] G) (hg : o.guard = none) (hd : o.dst = some d) (hk : OpsL P ops l (mk ((d, r) :: eraseOv G ov) n ((k, x) :: eraseHv G hv)) K) :
    OpsL P ops (o :: l) (mk ov n hv) K :=
  s_k hy hg (by rw [tl_erase, hd]; exact put_tl) (by rw [hp_erase]; exact upd_hp) hk
end
end Go.Proofs.YtglilpigoocgeaaGreatDoor.V
namespace Go.Proofs.YtglilpigoocgeaaGreatDoor.V
open Go
set_option linter.unusedVariables false
set_option linter.unusedSimpArgs false

section
variable {α σ R : Type}
/-- A recursion over a list that may end early. -/
def iter (step : α → σ → Nat → (σ → R) → R) (done : σ → R) : List α → σ → Nat → R
  | [], s, _ => done s
  | x :: l, s, i => step x s i fun s' => iter step done l s' (i + 1)
theorem atL_lt [Inhabited R] {xs : List α} {i : Nat} {f : α → R} (h : i < xs.length) : atL xs i f = f xs[i] := by
  simp only [atL, List.getElem?_eq_getElem h]
/-- A loop over places is a recursion over the list. -/
theorem loop_iter [Inhabited R] {xs : List α} {f : Nat → σ → Nat → R} {step : α → σ → Nat → (σ → R) → R} {done : σ → R}
    (hs : ∀ n s i, f (n + 1) s i = cond (decide ((i : Int) < (xs.length : Int))) (atL xs i fun x => step x s i fun s' => f n s' (i + 1)) (done s)) :
    ∀ (n i : Nat) (s : σ), i ≤ xs.length → i + n = xs.length + 1 → f n s i = iter step done (xs.drop i) s i
  | 0, i, s, h1, h2 => by omega
  | n + 1, i, s, h1, h2 => by
    rw [hs]
    rcases Nat.lt_or_ge i xs.length with h | h
    · have e : (decide ((i : Int) < (xs.length : Int))) = true := by simp; omega
      rw [e, cond_true, atL_lt h, List.drop_eq_getElem_cons h]
      simp only [iter]
      congr 1
      funext s'
      exact loop_iter hs n (i + 1) s' (by omega) (by omega)
    · have e : (decide ((i : Int) < (xs.length : Int))) = false := by simp; omega
      rw [e, cond_false, List.drop_eq_nil_of_le h]
      rfl
/-- Gathering, element by element. -/
theorem iter_map {β : Type} {g : α → β} {done : List β → R} : ∀ {l : List α} {s : List β} {i : Nat}, iter (fun x s _ k => k (s ++ [g x])) done l s i = done (s ++ l.map g)
  | [], s, i => by simp [iter]
  | x :: l, s, i => by simp only [iter]; rw [iter_map]; simp
/-- Loops that ask the same of every element. -/
theorem loop_all {q : α → Bool} {d : Bool} {xs : List α} {f : Nat → Nat → Bool} (hs : ∀ n i, f (n + 1) i = cond (decide ((i : Int) < (xs.length : Int))) (atL xs i fun x => cond (!(q x)) false (f n (i + 1))) d) :
    ∀ (n i : Nat), i ≤ xs.length → i + n = xs.length + 1 → f n i = ((xs.drop i).all q && d)
  | 0, i, h1, h2 => by omega
  | n + 1, i, h1, h2 => by
    rw [hs]
    rcases Nat.lt_or_ge i xs.length with h | h
    · have e : (decide ((i : Int) < (xs.length : Int))) = true := by simp; omega
      rw [e, cond_true, atL_lt h, List.drop_eq_getElem_cons h, List.all_cons, loop_all hs n (i + 1) (by omega) (by omega)]
      cases q xs[i] <;> simp
    · have e : (decide ((i : Int) < (xs.length : Int))) = false := by simp; omega
      rw [e, cond_false, List.drop_eq_nil_of_le h]; simp
theorem loop_idx {p : α → Bool} {xs : List α} {f : Nat → Nat → Int} (hs : ∀ n i, f (n + 1) i = cond (decide ((i : Int) < (xs.length : Int))) (atL xs i fun x => cond (p x) (i : Int) (f n (i + 1))) (-1)) :
    ∀ (n i : Nat), i ≤ xs.length → i + n = xs.length + 1 → decide (0 ≤ f n i) = (xs.drop i).any p
  | 0, i, h1, h2 => by omega
  | n + 1, i, h1, h2 => by
    rw [hs]
    rcases Nat.lt_or_ge i xs.length with h | h
    · have e : (decide ((i : Int) < (xs.length : Int))) = true := by simp; omega
      rw [e, cond_true, atL_lt h, List.drop_eq_getElem_cons h, List.any_cons, ← loop_idx hs n (i + 1) (by omega) (by omega)]
      cases p xs[i] <;> simp
    · have e : (decide ((i : Int) < (xs.length : Int))) = false := by simp; omega
      rw [e, cond_false, List.drop_eq_nil_of_le h]; simp
theorem loop_same {R : Type} {N : Nat} {f g : Nat → Nat → R} {A B : Nat → R → R} {d e : R} (hf : ∀ n i, f (n + 1) i = cond (decide ((i : Int) < (N : Int))) (A i (f n (i + 1))) d) (hg : ∀ n i, g (n + 1) i = cond (decide ((i : Int) < (N : Int))) (B i (g n (i + 1))) e)
    (hAB : ∀ i v, A i v = B i v) (hd : d = e) : ∀ (n i : Nat), i ≤ N → i + n = N + 1 → f n i = g n i
  | 0, i, h1, h2 => by omega
  | n + 1, i, h1, h2 => by
    rw [hf, hg]
    rcases Nat.lt_or_ge i N with h | h
    · rw [loop_same hf hg hAB hd n (i + 1) (by omega) (by omega), hAB, hd]
    · have e : (decide ((i : Int) < (N : Int))) = false := by simp; omega
      rw [e, cond_false, cond_false, hd]
end

end Go.Proofs.YtglilpigoocgeaaGreatDoor.V
namespace Go.Proofs.YtglilpigoocgeaaGreatDoor.V
open Go
set_option linter.unusedVariables false
set_option linter.unusedSimpArgs false

theorem mapM_get {α β : Type} {f : α → Option β} : ∀ {l : List α} {ys : List β}, l.mapM f = some ys → ys.length = l.length ∧ ∀ (i : Nat) (a : α), l[i]? = some a → ∃ y, f a = some y ∧ ys[i]? = some y
  | [], ys, h => by simp at h; subst h; simp
  | x :: l, ys, h => by
    rw [List.mapM_cons] at h
    cases hx : f x with
    | none => rw [hx] at h; cases h
    | some y =>
      rw [hx] at h
      cases hl : l.mapM f with
      | none => rw [hl] at h; cases h
      | some zs =>
        rw [hl] at h
        have e : ys = y :: zs := by simpa using h.symm
        subst e
        obtain ⟨h1, h2⟩ := mapM_get hl
        refine ⟨by simp [h1], fun i a ha => ?_⟩
        cases i with
        | zero => simp at ha; subst ha; exact ⟨y, hx, rfl⟩
        | succ i => simpa using h2 i a (by simpa using ha)

section
variable {H : Type} {enc : TypeId × Value → H} {P : Program} {W : World}

/-- What reads as a 'T' is shown by a native value. -/
def Rd {α : Type} (enc : TypeId × Value → H) (P : Program) (W : World) (T : TypeId) (n : Nat) (c : α → List Dat) (B : α → Prop) : Prop :=
  P.cellsOf T = n ∧ ∀ (fuel : Nat) (cs : List Value) (d : DataW H) (ps : List MemPlace), DataW.trod enc P W 0 (fun _ => true) true fuel T cs = some (d, ps) → ∃ a F, Reps false W (c a) cs F ∧ B a ∧ cs.length = n

theorem rd_int {T : TypeId} {k : IntKind} (hu : P.underlying T = some (.int k)) (hn : P.cellsOf T = 1) : Rd enc P W T 1 (fun v : Int => [.lf (.int k v)]) bndU := by
  refine ⟨hn, fun fuel cs d ps h => ?_⟩
  cases fuel with
  | zero => simp [DataW.trod] at h
  | succ fuel =>
    rcases cs with _ | ⟨v, _ | ⟨v2, l⟩⟩
    · simp [DataW.trod, hu] at h
    · cases v <;> simp [DataW.trod, hu] at h
      rename_i k' n
      obtain ⟨⟨e, _⟩, _⟩ := h
      subst e
      exact ⟨n, [], .lf rfl .nil, trivial, rfl⟩
    · simp [DataW.trod, hu] at h
theorem rd_bool {T : TypeId} (hu : P.underlying T = some .bool) (hn : P.cellsOf T = 1) : Rd enc P W T 1 (fun v : Bool => [dB v]) bndU := by
  refine ⟨hn, fun fuel cs d ps h => ?_⟩
  cases fuel with
  | zero => simp [DataW.trod] at h
  | succ fuel =>
    rcases cs with _ | ⟨v, _ | ⟨v2, l⟩⟩
    · simp [DataW.trod, hu] at h
    · cases v <;> simp [DataW.trod, hu] at h
      rename_i b
      exact ⟨b, [], .lf rfl .nil, trivial, rfl⟩
    · simp [DataW.trod, hu] at h
theorem rd_str {T : TypeId} (hu : P.underlying T = some .string) (hn : P.cellsOf T = 1) : Rd enc P W T 1 (fun v : ByteArray => [dS v]) bndS := by
  refine ⟨hn, fun fuel cs d ps h => ?_⟩
  cases fuel with
  | zero => simp [DataW.trod] at h
  | succ fuel =>
    rcases cs with _ | ⟨v, _ | ⟨v2, l⟩⟩
    · simp [DataW.trod, hu] at h
    · cases v <;> simp [DataW.trod, hu] at h
      rename_i b
      exact ⟨b, [], .lf rfl .nil, by have := h.1; simp only [maxLen] at this; simp only [bndS]; omega, rfl⟩
    · simp [DataW.trod, hu] at h

theorem cells_get {a : Addr} {n : Nat} {cs : List Value} (h : W.cells? 0 a n = some cs) (hn : 0 < n) : a.spot = none ∧ ∃ arr ty fr, W.heap[a.block]? = some (.cells arr ty fr) ∧ a.off + n ≤ arr.size ∧ cs = seg arr a.off n := by
  simp only [World.cells?, Nat.zero_le, if_true] at h
  obtain ⟨h1, h2⟩ := mapM_get h
  simp only [List.length_range] at h1
  have h0 : ∀ i, i < n → ∃ y, W.cell? (a.add i) = some y ∧ cs[i]? = some y := fun i hi => h2 i i (by simp [hi])
  obtain ⟨y0, e0, _⟩ := h0 0 hn
  have ea : a.add 0 = a := by simp [Addr.add]
  rw [ea] at e0
  simp only [World.cell?] at e0
  split at e0
  · rename_i arr ty fr hb
    split at e0
    · cases e0
    · rename_i hs
      have hsp : a.spot = none := by simpa using hs
      have hcell : ∀ i, i < n → ∃ y, arr[a.off + i]? = some y ∧ cs[i]? = some y := fun i hi => by
        obtain ⟨y, e1, e2⟩ := h0 i hi
        refine ⟨y, ?_, e2⟩
        have hadd : a.add i = ⟨a.block, a.off + i, none⟩ := by
          simp only [Addr.add]
          split
          · subst i; cases a; simp_all
          · rfl
        rw [hadd, cell_block hb] at e1
        exact e1
      refine ⟨hsp, arr, ty, fr, hb, ?_, ?_⟩
      · obtain ⟨y, e1, _⟩ := hcell (n - 1) (by omega)
        have := (Array.getElem?_eq_some_iff.1 e1).1
        omega
      · apply List.ext_getElem?
        intro i
        by_cases hi : i < n
        · obtain ⟨y, e1, e2⟩ := hcell i hi
          rw [seg_get hi, e1, e2]
        · rw [List.getElem?_eq_none (by omega)]
          simp only [seg, List.getElem?_take, if_neg hi]
  · cases e0

theorem rd_slice {α : Type} {T e : TypeId} {n : Nat} {c : α → List Dat} {B : α → Prop} (hu : P.underlying T = some (.slice e)) (hn : P.cellsOf T = 1) (he : Rd enc P W e n c B) (h0 : 0 < n) (hc : ∀ a, (c a).length = n) :
    Rd enc P W T 1 (fun xs : List α => [.sl n (xs.map c)]) (bndL B) := by
  refine ⟨hn, fun fuel cs d ps h => ?_⟩
  cases fuel with
  | zero => simp [DataW.trod] at h
  | succ fuel =>
    rcases cs with _ | ⟨v, _ | ⟨v2, l⟩⟩
    · simp [DataW.trod, hu] at h
    · cases v with
      | slice ad len cap =>
        cases ad with
        | none =>
          rcases len with _ | len
          · rcases cap with _ | cap
            · exact ⟨[], [], .nl .nil, ⟨by simp, by simp⟩, rfl⟩
            · simp [DataW.trod, hu] at h
          · simp [DataW.trod, hu] at h
        | some a =>
          simp only [DataW.trod, hu, he.1] at h
          split at h
          · rename_i hle
            obtain ⟨_, hlc, hcm⟩ := hle
            simp only [maxLen] at hcm
            obtain ⟨elems, hel, _⟩ := Option.bind_eq_some_iff.1 h
            obtain ⟨h1, h2⟩ := mapM_get hel
            simp only [List.length_range] at h1
            have hread : ∀ i, i < len → ∃ cs d ps, W.cells? 0 (a.add (i * n)) n = some cs ∧ DataW.trod enc P W 0 (fun _ => true) true fuel e cs = some (d, ps) := fun i hi => by
              obtain ⟨y, hy, _⟩ := h2 i i (by simp [hi])
              obtain ⟨cs, e1, e2⟩ := Option.bind_eq_some_iff.1 hy
              exact ⟨cs, y.1, y.2, e1, e2⟩
            rcases Nat.eq_zero_or_pos len with hl0 | hl0
            · subst hl0
              exact ⟨[], [], .em rfl .nil, ⟨by simp, by simp⟩, rfl⟩
            · obtain ⟨cs0, _, _, hc0, _⟩ := hread 0 hl0
              have ea : a.add (0 * n) = a := by simp [Addr.add]
              rw [ea] at hc0
              obtain ⟨hsp, arr, ty, fr, hb, _, _⟩ := cells_get hc0 h0
              have hrow : ∀ i, i < len → ∃ (x : α) (F : List Nat), B x ∧ a.off + i * n + n ≤ arr.size ∧ Reps false W (c x) (seg arr (a.off + i * n) n) F := fun i hi => by
                obtain ⟨cs, d, ps, e1, e2⟩ := hread i hi
                obtain ⟨_, arr', ty', fr', hb', hs', hcs⟩ := cells_get e1 h0
                have hblk : (a.add (i * n)).block = a.block ∧ (a.add (i * n)).off = a.off + i * n := by
                  simp only [Addr.add]; split
                  · rename_i hz; rw [hz]; exact ⟨rfl, rfl⟩
                  · exact ⟨rfl, rfl⟩
                rw [hblk.1, hb] at hb'
                injection hb' with hb'
                injection hb' with hb'
                subst hb'
                rw [hblk.2] at hs' hcs
                obtain ⟨x, F, hr, hx, _⟩ := he.2 fuel cs d ps e2
                rw [hcs] at hr
                exact ⟨x, F, hx, hs', hr⟩
              have hall : ∀ k, k ≤ len → ∃ (xs : List α) (F : List Nat), xs.length = k ∧ (∀ x ∈ xs, B x) ∧ Reps false W (xs.map c).flatten (seg arr a.off (k * n)) F := by
                intro k
                induction k with
                | zero => intro _; exact ⟨[], [], rfl, by simp, by simp only [Nat.zero_mul, seg_zero]; exact .nil⟩
                | succ k ih =>
                  intro hk
                  obtain ⟨xs, F, hxl, hxb, hr⟩ := ih (by omega)
                  obtain ⟨x, F2, hx, hs2, hr2⟩ := hrow k (by omega)
                  refine ⟨xs ++ [x], F ++ F2, by simp [hxl], ?_, ?_⟩
                  · intro y hy
                    rcases List.mem_append.1 hy with hy | hy
                    · exact hxb y hy
                    · simp at hy; subst hy; exact hx
                  · rw [Nat.add_mul, Nat.one_mul, seg_add]
                    simp only [List.map_append, List.flatten_append, List.map_cons, List.map_nil, List.flatten_cons, List.flatten_nil, List.append_nil]
                    exact hr.append hr2
              obtain ⟨xs, F, hxl, hxb, hr⟩ := hall len (Nat.le_refl _)
              obtain ⟨_, _, _, hs2, _⟩ := hrow (len - 1) (by omega)
              have hsz : a.off + len * n ≤ arr.size := by
                have : len * n = (len - 1) * n + n := by
                  obtain ⟨m, rfl⟩ : ∃ m, len = m + 1 := ⟨len - 1, by omega⟩
                  rw [Nat.add_sub_cancel, Nat.add_mul, Nat.one_mul]
                omega
              have hml : (xs.map c).length = len := by rw [List.length_map, hxl]
              have haa : a = ⟨a.block, a.off, none⟩ := by cases a; simp only at hsp; subst hsp; rfl
              refine ⟨xs, a.block :: (F ++ []), ?_, ⟨by rw [hxl]; omega, hxb⟩, rfl⟩
              have := Reps.sl (wr := false) (n := n) (es := xs.map c) (cap := cap) hb (by rw [hml]; exact hlc) (fun e he => by obtain ⟨x, _, rfl⟩ := List.mem_map.1 he; exact hc x) (by rw [hml]; exact hsz) (by simp) (by rw [hml]; exact hr) .nil
              rw [hml] at this
              rw [haa]
              exact this
          · cases h
      | _ => simp [DataW.trod, hu] at h
    · simp [DataW.trod, hu] at h

/-- The fields of a struct, from an offset on. -/
def RdF {β : Type} (enc : TypeId × Value → H) (P : Program) (W : World) (o : Nat) (fs : List (Nat × TypeId)) (m : Nat) (c : β → List Dat) (B : β → Prop) : Prop :=
  ∀ (fuel : Nat) (cs : List Value), cs.length = m → (∀ (i : Nat) (f : Nat × TypeId), fs[i]? = some f → ∃ d ps, DataW.trod enc P W 0 (fun _ => true) true fuel f.2 ((cs.drop f.1).take (P.cellsOf f.2)) = some (d, ps)) →
    ∃ b F, Reps false W (c b) (cs.drop o) F ∧ B b
theorem rdf_nil {o m : Nat} (h : o = m) : RdF enc P W o [] m (fun _ : Unit => []) (fun _ => True) := fun fuel cs hl _ => by
  subst h
  refine ⟨(), [], ?_, trivial⟩
  rw [List.drop_eq_nil_of_le (by omega)]
  exact .nil
theorem rdf_cons {α β : Type} {o n m : Nat} {T : TypeId} {fs : List (Nat × TypeId)} {c1 : α → List Dat} {B1 : α → Prop} {c2 : β → List Dat} {B2 : β → Prop} (h1 : Rd enc P W T n c1 B1) (h2 : RdF enc P W (o + n) fs m c2 B2) :
    RdF enc P W o ((o, T) :: fs) m (fun p : α × β => c1 p.1 ++ c2 p.2) (fun p => B1 p.1 ∧ B2 p.2) := fun fuel cs hl hr => by
  obtain ⟨d, ps, h3⟩ := hr 0 (o, T) rfl
  obtain ⟨b, F2, h4, h5⟩ := h2 fuel cs hl fun i f hf => hr (i + 1) f (by simpa using hf)
  rw [h1.1] at h3
  obtain ⟨a, F1, h6, h7, h8⟩ := h1.2 fuel _ d ps h3
  refine ⟨(a, b), F1 ++ F2, ?_, h7, h5⟩
  have e : cs.drop o = (cs.drop o).take n ++ cs.drop (o + n) := by rw [← List.drop_drop, List.take_append_drop]
  rw [e]
  exact h6.append h4
theorem rd_struct {β S : Type} {T : TypeId} {m : Nat} {fds : Array Field} {fs : List (Nat × TypeId)} {c : β → List Dat} {B : β → Prop} {cS : S → List Dat} {BS : S → Prop} (hu : P.underlying T = some (.struct fds)) (hf : fds.toList.map (fun f => (f.offset, f.type)) = fs)
    (hn : P.cellsOf T = m) (h : RdF enc P W 0 fs m c B) (mk : β → S) (h1 : ∀ b, cS (mk b) = c b) (h2 : ∀ b, B b → BS (mk b)) : Rd enc P W T m cS BS := by
  refine ⟨hn, fun fuel cs d ps hr => ?_⟩
  cases fuel with
  | zero => simp [DataW.trod] at hr
  | succ fuel =>
    have hr' : (if cs.length = P.cellsOf T then (fds.toList.mapM fun f => DataW.trod enc P W 0 (fun _ => true) true fuel f.type ((cs.drop f.offset).take (P.cellsOf f.type))).map fun xs => (DataW.agg (xs.map (·.1)), xs.flatMap (·.2)) else none) = some (d, ps) := by
      unfold DataW.trod at hr
      simp only [hu] at hr
      exact hr
    split at hr'
    · rename_i hl
      obtain ⟨xs, hx, _⟩ := Option.map_eq_some_iff.1 hr'
      obtain ⟨g1, g2⟩ := mapM_get hx
      obtain ⟨b, F, hb, hB⟩ := h fuel cs (by rw [hl, hn]) fun i f hfi => by
        rw [← hf, List.getElem?_map] at hfi
        obtain ⟨fd, e1, e2⟩ := Option.map_eq_some_iff.1 hfi
        obtain ⟨y, e3, _⟩ := g2 i fd e1
        subst e2
        exact ⟨y.1, y.2, e3⟩
      refine ⟨mk b, F, ?_, h2 b hB, by rw [hl, hn]⟩
      rw [h1]
      simpa using hb
    · cases hr'

theorem eqT {P : Program} {f : FuncId} {as : List Arg} {α : Type} [DecidableEq α] {x : α} (h : Tr P f as [one (dB (decide (x = x)))]) : Tr P f as [one (dB true)] := by rwa [decide_eq_true rfl] at h
theorem dec_neq {α : Type} [DecidableEq α] {x : α} : decide (x ≠ x) = false := by simp
theorem kept_below {w w' : World} (h : Kept (· ∈ ([] : List Nat)) w w') : Go.RowKit.Below w.heap.size w w' := ⟨h.os, h.tape, h.output, h.size, fun k hk => h.blk k hk (by simp)⟩
/-- What a value of a struct type, of another type, looks like. -/
theorem ok_agg {P : Program} {W : World} {r : Reach} {base : Nat} {t : TypeId} {v : Value} {fds : Array Field} (hu : P.underlying t = some (.struct fds)) (h : Value.okWide P W r base t v) : Cells true v v.cells.toList := by
  simp only [Value.okWide, hu] at h
  obtain ⟨cs, e, _⟩ := h
  subst e
  exact ⟨cs, rfl, rfl⟩
theorem ok_one {P : Program} {W : World} {r : Reach} {base : Nat} {t : TypeId} {v : Value} {d : TypeDesc} (hu : P.underlying t = some d) (hd : match d with | .int _ | .bool | .string | .slice _ => True | _ => False) (h : Value.okWide P W r base t v) : Cells false v v.cells.toList := by
  have key : ∀ x, v ≠ .agg x := by
    intro x e
    subst e
    cases d <;> simp only at hd <;> simp [Value.okWide, hu, Cell.okWide, Cell.ok] at h
  cases v <;> first | rfl | exact absurd rfl (key _)
theorem read_arg {H : Type} {enc : TypeId × Value → H} {P : Program} {W : World} {α : Type} {T : TypeId} {n : Nat} {c : α → List Dat} {B : α → Prop} {v : Value} {d : DataW H} {ps : List MemPlace} {ag : Bool} (hr : Rd enc P W T n c B) (h : DataW.Trod enc P W 0 (fun _ => true) true T v d ps)
    (hc : Cells ag v v.cells.toList) : ∃ a F, DVRel false W ⟨ag, c a⟩ v F ∧ B a := by
  obtain ⟨fuel, hf⟩ := h
  obtain ⟨a, F, h1, h2, _⟩ := hr.2 fuel _ d ps hf
  exact ⟨a, F, ⟨_, hc, h1⟩, h2⟩
theorem res_true {w : World} {rs : List Value} {F : List Nat} {v : Value} (h : DVs w [one (dB true)] rs F) (hv : IsRes v rs) : v = .bool true := by
  cases h with
  | cons h t =>
    cases t
    obtain ⟨vs, hc, hr⟩ := h
    have hc' : vs = [_] := hc
    subst hc'
    obtain ⟨e, _⟩ := reps_one_lf hr
    exact hv.trans e
end

end Go.Proofs.YtglilpigoocgeaaGreatDoor.V
namespace Go.Proofs.YtglilpigoocgeaaGreatDoor.V
open Go
set_option linter.unusedVariables false
set_option linter.unusedSimpArgs false

/-- What a closure holds, handed on as arguments. -/
abbrev capA (dc : List Dat) : List Arg := dc.map fun d => .ro (one d)

theorem argsIn_caps {w : World} : ∀ {dc : List Dat} {cs : List Value} {G : List Nat}, Reps false w dc cs G → ∃ FA, ArgsIn w (capA dc) cs FA [] ∧ ∀ b ∈ FA, b ∈ G
  | [], cs, G, h => by cases h; exact ⟨[], .nil, by simp⟩
  | d :: dc, cs, G, h => by
    have h' : Reps false w ([d] ++ dc) cs G := h
    obtain ⟨v1, v2, F1, F2, rfl, rfl, h1, h2⟩ := h'.split
    obtain ⟨FA, h3, h4⟩ := argsIn_caps h2
    have hl := h1.length
    obtain ⟨v, rfl⟩ := List.length_eq_one_iff.1 hl
    refine ⟨F1 ++ FA, .ro ⟨[v], rfl, h1⟩ h3, fun b hb => ?_⟩
    rcases List.mem_append.1 hb with hb | hb
    · simp [hb]
    · simp [h4 b hb]
theorem ArgsIn.append {w : World} {as bs : List Arg} {vs us : List Value} {FA FB M : List Nat} (h : ArgsIn w as vs FA M) (h' : ArgsIn w bs us FB []) : ArgsIn w (as ++ bs) (vs ++ us) (FA ++ FB) M := by
  induction h with
  | nil => exact h'
  | ro h t ih => simp only [List.cons_append, List.append_assoc]; exact .ro h ih
  | mu h t ih => simp only [List.cons_append]; exact .mu h ih
  | own h t ih => simp only [List.cons_append]; exact .own h ih
theorem ArgsIn.lens {w : World} {as : List Arg} {vs : List Value} {FA M : List Nat} (h : ArgsIn w as vs FA M) : vs.length = as.length := by
  induction h with
  | nil => rfl
  | ro h t ih => simp [ih]
  | mu h t ih => simp [ih]
  | own h t ih => simp [ih]
theorem argsOut_caps {w w' : World} : ∀ {dc : List Dat} {us : List Value} {F : List Nat}, ArgsOut w w' (capA dc) us F → F = []
  | [], us, F, h => by cases h; rfl
  | d :: dc, us, F, h => by
    cases h with
    | ro t => exact argsOut_caps t
theorem ArgsOut.front {w w' : World} {as : List Arg} {dc : List Dat} : ∀ {vs us : List Value} {F : List Nat}, ArgsOut w w' (as ++ capA dc) (vs ++ us) F → vs.length = as.length → ArgsOut w w' as vs F := by
  induction as with
  | nil =>
    intro vs us F h hl
    have : vs = [] := List.eq_nil_of_length_eq_zero hl
    subst this
    have := argsOut_caps h
    subst this
    exact .nil
  | cons x as ih =>
    intro vs us F h hl
    cases vs with
    | nil => simp at hl
    | cons v vs =>
      simp only [List.cons_append] at h
      simp only [List.length_cons, Nat.add_right_cancel_iff] at hl
      cases h with
      | ro t => exact .ro (ih t hl)
      | mu ha hc hh hz t => exact .mu ha hc hh hz (ih t hl)
      | own t => exact .own (ih t hl)

section
variable {P : Program} {o : Oper} {t : List Slot} {h : Heap}

theorem enters_value {f : FuncId} {dc : List Dat} {x : Operand} {args : Array Operand} {ats : Array TypeId} {as : List Arg} {res : List DV} {R : List Nat} {E : List (Nat × VO)} (ho : o.op = .call { callee := .value x, args := args, argTypes := ats })
    (hx : Ev t x ⟨false, [.d (.cl f dc)]⟩) (hent : Enter P f) (ha : ArgsV t h args.toList as R E) (hk : (keys E).Nodup) : Enters P o t h f (as ++ capA dc) R E := by
  intro w0 M0 A0 locs RO a w hg hm
  obtain ⟨FA, M, q1, q2, q3, q4, q5⟩ := ha.sound hg hm hk
  obtain ⟨⟨F, hr, hF⟩, _⟩ := hm.ev1 hx
  generalize hv : a.eval x = v at hr
  cases hr with
  | cl g r =>
    rename_i cs G F'
    cases r
    obtain ⟨FB, h1, h2⟩ := argsIn_caps g
    refine ⟨(args.toList.map a.eval) ++ cs, FA ++ FB, M, ?_, q1.append h1, fun b hb => ?_, q3, q4, fun w' F0 e1 e2 e3 e4 => q5 w' F0 e1 e2 (e3.front q1.lens) e4⟩
    · have e : (List.map a.eval args.toList ++ cs).toArray = Array.map a.eval args ++ cs.toArray := by simp
      rw [e]
      simp only [execOp, ho, resolve, Deferred.ofValue, hv, Sem.run_bind, Sem.run_pure, Result.andThen_ok, invoke, Array.empty_append]
      rw [hent.run]
    · rcases List.mem_append.1 hb with hb | hb
      · exact q2 b hb
      · exact .inl (hF b (by simp [h2 b hb]))
end
section
variable {P : Program} {o : Oper} {ov : List (Nat × Slot)} {n : Nat} {hv : List (Nat × VO)}
/-- A call of a function value that came in, its arguments read. -/
theorem zcallv {t : List Slot} {h : Heap} {f : FuncId} {dc : List Dat} {x : Operand} {args : Array Operand} {ats : Array TypeId} {as : List Arg} {res : List DV} {R : List Nat} (k : Nat) (r : Slot) (E' : List (Nat × VO)) (ho : o.op = .call { callee := .value x, args := args, argTypes := ats })
    (hx : Ev t x ⟨false, [.d (.cl f dc)]⟩) (htr : Tr P f (as ++ capA dc) res) (ha : ArgsV t h args.toList as R []) (hs : simpleR res = true) (hfree : ∀ i, i < (objsR res).length → h (k + i) = .gone) (hr : resSlot k res = r) (hE : newsAt k (objsR res) = E') :
    Does P o ⟨t, h⟩ ⟨putT t o.dst r, updAll h E'⟩ := by
  rw [← hr, ← hE]
  exact does_enterG htr (enters_value ho hx htr.ent ha List.nodup_nil (res := res)) List.nodup_nil (fun r _ => by simp [keys]) hs hfree
end
section
variable {P : Program} {o : Oper} {t : List Slot} {h : Heap} {tab : List TyI}
theorem zlp {T : TypeId} {x : Operand} {cells : List Dat} {r : TV} (hT : TabOk P tab) (ho : o.op = .load T x) (hx : Ev t x ⟨false, [.d (.pt cells)]⟩) (hk : ldOk (ty tab T) 0 cells.length = true)
    (hr : (⟨(ty tab T).ag, (cells.take (ty tab T).sz).map .d⟩ : TV) = r) : Yield P o t h (.t r) := by
  obtain ⟨h1, h2, h3⟩ := ldOk_of hk
  rw [← hr]
  exact y_ldpt hT ho hx h1 h2 (by omega)
theorem zmf {f : FuncId} {caps : Array Operand} {ks : List Nat} (ho : o.op = .makeFunc (.func f) #[] caps) (hc : All2 (fun c k => Ev t c ⟨false, [.vp k 0]⟩) caps.toList ks) : Yield P o t h (.t ⟨false, [.cl f ks]⟩) := y_mkfunc ho hc
end

end Go.Proofs.YtglilpigoocgeaaGreatDoor.V
namespace Go.Proofs.YtglilpigoocgeaaGreatDoor.V
open Go
set_option linter.unusedVariables false
set_option linter.unusedSimpArgs false

section
variable {w0 : World} {M0 : Nat → Prop} {A0 : Cx} {h : Heap} {w : World} {locs : Locs} {RO : Nat → Prop}
theorem touch_kept {w' : World} (hk : Kept (fun _ => False) w w') : Touch h w locs h w' locs RO (· ∈ ([] : List Nat)) (fun _ => False) (fun _ => False) where
  kept := hk
  only b hb := hb.elim
  same j hj := ⟨rfl, rfl⟩
  obj j hj := by simp at hj
  cells j hj := by simp at hj
  live j hj := by simp at hj
  nodup j hj := by simp at hj
  foot j hj := by simp at hj
  disj j l hj := by simp at hj
  step j hj := by simp at hj
  sub o ho := ho.elim
  clean _ _ _ _ _ _ _ := not_false
  fresh o ho := by simp at ho
  killed o ho := ho.elim
/-- More blocks stay from now on. -/
theorem Good.more (hg : Good w0 M0 A0 h w locs RO) {S : Nat → Prop} (h1 : ∀ b, S b → b < w.heap.size) (h2 : ∀ b, S b → ∀ k, b ∉ (locs k).foot) (h3 : ∀ b, S b → w0.heap.size ≤ b) : Good w0 M0 A0 h w locs (fun b => RO b ∨ S b) where
  obj k := (hg.obj k).frame (fun _ _ => rfl) fun b hb => ⟨.inl hb, rfl⟩
  cells k cs hk arr ty fr hb := (hg.cells k cs hk arr ty fr hb).mono fun a b ha hr => hr.carry (fun b hb => ⟨.inl hb, rfl⟩) fun o ho => hg.ostep (touch_none (RO := RO)) (not_false)
  live := hg.live
  nodup := hg.nodup
  disj := hg.disj
  noro k b hb hr := by
    rcases hr with hr | hr
    · exact hg.noro k b hb hr
    · exact h2 b hr k hb
  rolt b hb := by
    rcases hb with hb | hb
    · exact hg.rolt b hb
    · exact h1 b hb
  kept := hg.kept
  mfoot := hg.mfoot
  share b hb := by
    rcases hb with hb | hb
    · exact hg.share b hb
    · exact .inr (h3 b hb)
  pin := hg.pin
theorem Tmps.more {t : List Slot} {a : Act} (hg : Good w0 M0 A0 h w locs RO) (hm : Tmps locs h w RO t a) {S : Nat → Prop} : Tmps locs h w (fun b => RO b ∨ S b) t a :=
  ⟨hm.1, hm.2.1, fun i => (hm.2.2.1 i).carry (fun b hb => ⟨.inl hb, rfl⟩) fun o ho => hg.ostep (touch_none (RO := RO)) not_false, hm.2.2.2⟩
end

/-- Results as data that stay. -/
def resD : List DV → Slot
  | [x] => .t ⟨x.ag, x.cs.map .d⟩
  | xs => .tu (xs.map fun x => ⟨x.ag, x.cs.map .d⟩)
theorem dvs_trels {w : World} {locs : Locs} {h : Heap} {RO : Nat → Prop} {res : List DV} {rs : List Value} {F : List Nat} (hd : DVs w res rs F) (hF : ∀ b ∈ F, RO b) : All2 (TRel locs h w RO) (res.map fun x => ⟨x.ag, x.cs.map .d⟩) rs := by
  induction hd with
  | nil => exact .nil
  | cons hx t ih =>
    obtain ⟨vs, hc, hr⟩ := hx
    refine .cons (trel_iff.2 ⟨vs, hc, reps_vrels hr.ro fun b hb => hF b (by simp [hb])⟩) (ih fun b hb => hF b (by simp [hb]))
theorem resD_refs {res : List DV} : (resD res).refs = [] := by
  have key : ∀ (l : List Dat), (l.map VC.d).flatMap VC.refs = [] := by
    intro l; induction l with
    | nil => rfl
    | cons x l ih => simp only [List.map_cons, List.flatMap_cons, ih]; rfl
  unfold resD
  split
  · simp only [Slot.refs, TV.refs, key]
  · simp only [Slot.refs, List.flatMap_map, TV.refs, key]; simp

section
variable {P : Program} {o : Oper} {t : List Slot} {h : Heap}
theorem does_enterD {f : FuncId} {as : List Arg} {res : List DV} {R : List Nat} (htr : Tr P f as res) (hs : Enters P o t h f as R []) : Does P o ⟨t, h⟩ ⟨putT t o.dst (resD res), h⟩ := by
  intro w0 M0 A0 a w K Q ⟨locs, RO, hg, hm⟩ hK
  obtain ⟨vs, FA, M, hop, q1, q2, q3, q4, q5⟩ := hs w0 M0 A0 locs RO a w hg hm
  have hM : M = [] := by
    cases M with
    | nil => rfl
    | cons b M => obtain ⟨k, hk, _⟩ := q4 b (by simp); simp [keys] at hk
  subst hM
  simp only [Oper.wp, hop, Oper.upon]
  refine Calls.mono (htr.tr w _ FA [] q1 q3 (by simp)) fun e w' ⟨v, rs, FR, FO, e1, e2, e3, e4, e5, e6, e7⟩ => ?_
  subst e1
  have hk : Kept (fun _ => False) w w' := e7.mono fun k _ hk => by simp at hk
  have hg1 := hg.step (touch_kept (RO := RO) hk)
  have hm1 := Tmps.step hg (touch_kept (RO := RO) hk) hm fun _ _ _ => not_false
  have hfr : ∀ b ∈ FR, w.heap.size ≤ b := fun b hb => (e6 b (by simp [hb])).resolve_left (by simp)
  have hlt : ∀ b ∈ FR, b < w'.heap.size := by
    have key : ∀ {res : List DV} {rs : List Value} {F : List Nat}, DVs w' res rs F → ∀ b ∈ F, b < w'.heap.size := by
      intro res rs F hd
      induction hd with
      | nil => simp
      | cons hx t ih =>
        obtain ⟨_, _, hr⟩ := hx
        intro b hb
        rcases List.mem_append.1 hb with hb | hb
        · exact hr.lt b hb
        · exact ih b hb
    exact key e3
  have hg2 := hg1.more (S := (· ∈ FR)) hlt (fun b hb k hbk => by have := hg.lt hbk; have := hfr b hb; omega) (fun b hb => by have := hg.kept.size; have := hfr b hb; omega)
  have hm2 := Tmps.more hg1 hm1 (S := (· ∈ FR))
  refine hK _ _ ⟨locs, _, hg2, hm2.put _ ?_ (by rw [resD_refs]; simp)⟩
  have ht := dvs_trels (locs := locs) (h := h) (RO := fun b => RO b ∨ b ∈ FR) e3 fun b hb => .inr hb
  unfold resD
  cases res with
  | nil => cases ht; exact ⟨#[], e2, .nil⟩
  | cons x xs =>
    cases xs with
    | nil =>
      cases ht with
      | cons h1 h2 =>
        cases h2
        have e2' : v = _ := e2
        subst e2'
        exact h1
    | cons y ys =>
      refine ⟨rs.toArray, ?_, ht⟩
      cases ht with
      | cons h1 h2 => cases h2 with | cons h3 h4 => exact e2
theorem enters_func {f : FuncId} {args : Array Operand} {ats : Array TypeId} {as : List Arg} {R : List Nat} (ho : o.op = .call { callee := .value (.func f), args := args, argTypes := ats }) (hent : Enter P f) (ha : ArgsV t h args.toList as R []) : Enters P o t h f as R [] := by
  intro w0 M0 A0 locs RO a w hg hm
  obtain ⟨FA, M, q1, q2, q3, q4, q5⟩ := ha.sound hg hm List.nodup_nil
  refine ⟨_, FA, M, ?_, q1, q2, q3, q4, q5⟩
  simp only [execOp, ho, resolve, Deferred.ofValue, Act.eval, Sem.run_bind, Sem.run_pure, Result.andThen_ok, invoke, Array.append_empty, Array.empty_append]
  rw [hent.run]
  have e : Array.map a.eval args = (List.map a.eval args.toList).toArray := by rw [← Array.toList_map]
  rw [← e]
/-- A call whose results are read alone. -/
theorem zcd {f : FuncId} {args : Array Operand} {ats : Array TypeId} {as : List Arg} {res : List DV} {R : List Nat} (r : Slot) (ho : o.op = .call { callee := .value (.func f), args := args, argTypes := ats }) (htr : Tr P f as res) (ha : ArgsV t h args.toList as R []) (hr : resD res = r) :
    Does P o ⟨t, h⟩ ⟨putT t o.dst r, updAll h []⟩ := by
  rw [← hr]; exact does_enterD htr (enters_func ho htr.ent ha)
theorem zcdv {f : FuncId} {dc : List Dat} {x : Operand} {args : Array Operand} {ats : Array TypeId} {as : List Arg} {res : List DV} {R : List Nat} (r : Slot) (ho : o.op = .call { callee := .value x, args := args, argTypes := ats })
    (hx : Ev t x ⟨false, [.d (.cl f dc)]⟩) (htr : Tr P f (as ++ capA dc) res) (ha : ArgsV t h args.toList as R []) (hr : resD res = r) : Does P o ⟨t, h⟩ ⟨putT t o.dst r, updAll h []⟩ := by
  rw [← hr]; exact does_enterD htr (enters_value ho hx htr.ent ha List.nodup_nil (res := res))
end

theorem tl_inj {s u : ByteArray} : s.toList = u.toList ↔ s = u := by
  rw [ByteArray.toList_eq, ByteArray.toList_eq]
  constructor
  · intro h; exact ByteArray.ext (by cases s; cases u; simp_all [Array.ext_iff] <;> exact Array.toList_inj.1 h)
  · rintro rfl; rfl
/-! ### bytes of strings -/
def bt (s : ByteArray) (i : Nat) : Int := ((s.data.getD i 0).toNat : Int)
theorem bt_ge {s : ByteArray} {i : Nat} : 0 ≤ bt s i := Int.natCast_nonneg _
theorem bt_lt {s : ByteArray} {i : Nat} : bt s i < 256 := by
  have := (s.data.getD i 0).toNat_lt
  simp only [bt]; omega
theorem bt_get {s : ByteArray} {i : Nat} (h : i < s.size) : ((s[i]'h).toNat : Int) = bt s i := by
  have : s.data.getD i 0 = s[i]'h := by
    have h' : i < s.data.size := h
    simp only [Array.getD]
    rw [dif_pos h']
    rfl
  simp only [bt, this]

section
variable {P : Program} {o : Oper} {t : List Slot} {h : Heap} {tab : List TyI}
theorem zby {T : TypeId} {x i : Operand} {s : ByteArray} {k : IntKind} {n : Int} {m : Nat} (hT : TabOk P tab) (ho : o.op = .index T x i) (hk : (ty tab T).k = .str) (hx : Ev t x ⟨false, [.d (.lf (.string s))]⟩)
    (hi : Ev t i ⟨false, [.d (.lf (.int k n))]⟩) (he : n = (m : Int)) (hm : m < s.size) : Yield P o t h (.t ⟨false, [.d (.lf (.int .u8 (bt s m)))]⟩) := by
  subst he
  have := y_byte (h := h) hT ho hk hx hi (Int.natCast_nonneg m) (by simpa using hm)
  rwa [bt_get (by simpa using hm), Int.toNat_natCast] at this

/-- A bound of a part: told, or left out. -/
def SB (t : List Slot) : Option Operand → Nat → Nat → Prop
  | none, d, l => l = d
  | some x, _, l => ∃ (k : IntKind) (i : Int), Ev t x ⟨false, [.d (.lf (.int k i))]⟩ ∧ i = (l : Int)
theorem sbn {d l : Nat} (h : l = d) : SB t none d l := h
theorem sbs {x : Operand} {k : IntKind} {i : Int} {d l : Nat} (hx : Ev t x ⟨false, [.d (.lf (.int k i))]⟩) (h : i = (l : Int)) : SB t (some x) d l := ⟨k, i, hx, h⟩
theorem SB.run {w : World} {locs : Locs} {RO : Nat → Prop} {a : Act} (hm : Tmps locs h w RO t a) {x : Option Operand} {d l m : Nat} {code : BoundsCode} (hs : SB t x d l) (hl : l ≤ m) :
    (match x.map a.eval with | some v => Instr.sliceBound v m code | none => pure d : Sem Nat).run P w = .ok l w := by
  cases x with
  | none => simp only [SB] at hs; subst hs; rfl
  | some x =>
    obtain ⟨k, i, hx, hi⟩ := hs
    subst hi
    have e := (hm.evlf hx).1
    simp only [Option.map_some, e, Instr.sliceBound, asIntOf, Sem.run_bind, Sem.run_pure, Result.andThen_ok]
    rw [if_pos ⟨Int.natCast_nonneg l, by omega⟩]
    simp
/-- A part of a string. -/
theorem zss {T : TypeId} {x : Operand} {lo hi : Option Operand} {s : ByteArray} {l u : Nat} (hT : TabOk P tab) (ho : o.op = .slice T x lo hi none) (hk : (ty tab T).k = .str) (hx : Ev t x ⟨false, [.d (.lf (.string s))]⟩)
    (hlo : SB t lo 0 l) (hhi : SB t hi s.size u) (h1 : l ≤ u) (h2 : u ≤ s.size) : Yield P o t h (.t ⟨false, [.d (dS (s.extract l u))]⟩) := by
  intro w0 M0 A0 locs RO a w hg hm
  have hu := (hT T (by simp [TyI.ok, hk])).string hk
  have e := (hm.evlf hx).1
  have q1 := SB.run (P := P) (code := BoundsCode.sliceAlen) hm hhi h2
  have q2 := SB.run (P := P) (code := BoundsCode.sliceB) hm hlo h1
  refine ⟨.string (s.extract l u), ?_, TRel.single.2 (vrel_lf rfl), by simp [Slot.refs, TV.refs, VC.refs]⟩
  have hb : (Instr.sliceBounds false s.size s.size (lo.map a.eval) (hi.map a.eval) none).run P w = .ok (l, u, s.size) w := by
    cases hi with
    | none =>
      have hu' : u = s.size := hhi
      subst hu'
      cases lo with
      | none => have hl' : l = 0 := hlo; subst hl'; simp [Instr.sliceBounds]
      | some y =>
        simp only [Option.map_some] at q2
        simp [Instr.sliceBounds, q2]
    | some z =>
      simp only [Option.map_some] at q1
      cases lo with
      | none => have hl' : l = 0 := hlo; subst hl'; simp [Instr.sliceBounds, q1]
      | some y =>
        simp only [Option.map_some] at q2
        simp [Instr.sliceBounds, q1, q2]
  have hs : (Instr.sliceAt T (.string s) (lo.map a.eval) (hi.map a.eval) none).run P w = .ok (.string (s.extract l u)) w := by
    simp [Instr.sliceAt, Instr.slice, Go.underlying, hu, hb]
  simp [execOp, ho, e, hs]
end

section
variable {P : Program} {T : TypeId} {w : World} {a b : Bool}
theorem b_beql (hu : P.underlying T = some .bool) : (binOp .eql T (.bool a) (.bool b)).run P w = .ok (.bool (decide (a = b))) w := by
  cases a <;> cases b <;> simp [binOp, run_equal_bool w T _ _ hu]
theorem b_bneq (hu : P.underlying T = some .bool) : (binOp .neq T (.bool a) (.bool b)).run P w = .ok (.bool (decide (a ≠ b))) w := by
  cases a <;> cases b <;> simp [binOp, run_equal_bool w T _ _ hu]
theorem u_neg {n : Int} : (Op.unary .neg (.int .i64 n)).run P w = .ok (.int .i64 (w64 (-n))) w := by simp [Op.unary, w64, Op.intArith]
theorem c_u8i {T2 : TypeId} {n : Int} (hu : P.underlying T = some (.int .u8)) (hu2 : P.underlying T2 = some (.int .i64)) (h1 : 0 ≤ n) (h2 : n < 256) : (convert T T2 (.int .u8 n)).run P w = .ok (.int .i64 n) w := by
  simp [convert, Go.underlying, hu, hu2, wr_i64 (n := n) (by omega) (by omega), Conv.intToInt]
theorem c_u8w {T2 : TypeId} {n : Int} (hu : P.underlying T = some (.int .u8)) (hu2 : P.underlying T2 = some (.int .i64)) : (convert T T2 (.int .u8 n)).run P w = .ok (.int .i64 (w64 n)) w := by
  simp [convert, Go.underlying, hu, hu2, Conv.intToInt, w64]
theorem w64_of {n : Int} (h1 : -9223372036854775808 ≤ n) (h2 : n < 9223372036854775808) : w64 n = n := wr_i64 h1 h2
theorem w64_bt {s : ByteArray} {i : Nat} : w64 (bt s i) = bt s i := wr_i64 (by have := @bt_ge s i; omega) (by have := @bt_lt s i; omega)
end

end Go.Proofs.YtglilpigoocgeaaGreatDoor.V
namespace Go.Proofs.YtglilpigoocgeaaGreatDoor.V
open Go
set_option linter.unusedVariables false
set_option linter.unusedSimpArgs false

section
variable {P : Program} {o : Oper} {t : List Slot} {h : Heap} {tab : List TyI}
theorem zsx {T el : TypeId} {x : Operand} {lo hi : Option Operand} {n : Nat} {es es' : List (List Dat)} {l u : Nat} (hT : TabOk P tab) (ho : o.op = .slice T x lo hi none) (hk : (ty tab T).k = .sl el) (hel : elOk (ty tab el) n = true)
    (hx : Ev t x ⟨false, [.d (.sl n es)]⟩) (hlo : SB t lo 0 l) (hhi : SB t hi es.length u) (h1 : l ≤ u) (h2 : u ≤ es.length) (hr : (es.drop l).take (u - l) = es') : Yield P o t h (.t ⟨false, [.d (.sl n es')]⟩) := by
  obtain ⟨hk1, hk2, _, _⟩ := elOk_of hel
  intro w0 M0 A0 locs RO a w hg hm
  have hu := (hT T (by simp [TyI.ok, hk])).slice hk
  have hsz := (hT el hk1).sizeOf w
  rw [hk2] at hsz
  obtain ⟨⟨F, hr0, hF⟩, _⟩ := hm.ev1 hx
  have key : ∀ (ad : Option Addr) (cap : Nat), es.length ≤ cap → a.eval x = .slice ad es.length cap → (execOp a.eval o).run P w = .ok (.value (.slice (if cap = l then ad else ad.map (·.add (l * n))) (u - l) (cap - l))) w := by
    intro ad cap hc hv
    have q1 := SB.run (P := P) (code := BoundsCode.sliceAcap) hm hhi (Nat.le_trans h2 hc)
    have q2 := SB.run (P := P) (code := BoundsCode.sliceB) hm hlo h1
    have hb : (Instr.sliceBounds true es.length cap (lo.map a.eval) (hi.map a.eval) none).run P w = .ok (l, u, cap) w := by
      cases hi with
      | none =>
        have hu' : u = es.length := hhi
        subst hu'
        cases lo with
        | none => have hl' : l = 0 := hlo; subst hl'; simp [Instr.sliceBounds]
        | some y =>
          simp only [Option.map_some] at q2
          simp [Instr.sliceBounds, q2]
      | some z =>
        simp only [Option.map_some] at q1
        cases lo with
        | none => have hl' : l = 0 := hlo; subst hl'; simp [Instr.sliceBounds, q1]
        | some y =>
          simp only [Option.map_some] at q2
          simp [Instr.sliceBounds, q1, q2]
    have hs : (Instr.sliceAt T (.slice ad es.length cap) (lo.map a.eval) (hi.map a.eval) none).run P w = .ok (.slice (if cap = l then ad else ad.map (·.add (l * n))) (u - l) (cap - l)) w := by
      simp [Instr.sliceAt, Instr.slice, Go.underlying, hu, hb, hsz]
    simp [execOp, ho, hv, hs]
  have hlen' : es'.length = u - l := by rw [← hr, List.length_take, List.length_drop]; omega
  generalize hv : a.eval x = v at hr0
  cases hr0 with
  | nl r =>
    have e1 := key none 0 (by simp) hv
    have hl0 : u - l = 0 := by simp at h2; omega
    have e0 : es' = [] := List.eq_nil_of_length_eq_zero (by omega)
    subst e0
    refine ⟨_, e1, TRel.single.2 ⟨[], ?_, by simp⟩, by simp [Slot.refs, TV.refs, VC.refs]⟩
    rw [hl0]
    simp only [Option.map_none, ite_self, Nat.zero_sub]
    exact .nl .nil
  | em hh r =>
    rename_i ad c F'
    have e1 := key (some ad) c (by simp) hv
    have hl0 : u - l = 0 := by simp at h2; omega
    have e0 : es' = [] := List.eq_nil_of_length_eq_zero (by omega)
    subst e0
    refine ⟨_, e1, TRel.single.2 ⟨[], ?_, by simp⟩, by simp [Slot.refs, TV.refs, VC.refs]⟩
    rw [hl0]
    split
    · exact .em rfl .nil
    · exact .em rfl .nil
  | sl hb hc he hs hw g r =>
    rename_i F' G b off cap arr aty fr
    have e1 := key _ cap hc hv
    by_cases hcl : cap = l
    · have hl0 : u - l = 0 := by omega
      have e0 : es' = [] := List.eq_nil_of_length_eq_zero (by omega)
      subst e0
      refine ⟨_, e1, TRel.single.2 ⟨[], ?_, by simp⟩, by simp [Slot.refs, TV.refs, VC.refs]⟩
      rw [hl0, if_pos hcl]
      exact .em rfl .nil
    · rw [if_neg hcl] at e1
      have hfl : es'.flatten = (es.flatten.drop (l * n)).take ((u - l) * n) := by
        have hd : ∀ e ∈ es.drop l, e.length = n := fun e hm => he e (List.mem_of_mem_drop hm)
        rw [← hr, flat_take hd (by rw [List.length_drop]; omega), flat_drop he (by omega)]
      obtain ⟨F1, F2, F3, hF3, _, hp, _⟩ := g.part (k := l * n) (l := (u - l) * n)
      have hmul : l * n + (u - l) * n ≤ es.length * n := by rw [← Nat.add_mul]; exact Nat.mul_le_mul_right _ (by omega)
      rw [seg_seg (by omega), ← hfl, ← hlen'] at hp
      refine ⟨_, e1, TRel.single.2 ⟨b :: (F2 ++ []), ?_, fun c hcm => hF c (by simp only [List.mem_cons, List.append_nil] at hcm; rcases hcm with rfl | hcm <;> simp [*])⟩, by simp [Slot.refs, TV.refs, VC.refs]⟩
      simp only [Option.map_some, add_plain]
      rw [← hlen']
      exact .sl hb (by omega) (fun e hm => by rw [← hr] at hm; exact he e (List.mem_of_mem_drop (List.mem_of_mem_take hm))) (by rw [hlen']; omega) (by simp) hp .nil
end
section
variable {α : Type} {f : α → List Dat} {xs ys : List α} {l u : Nat} {p : α → Prop}
theorem sl_both : ((xs.map f).drop l).take (u - l) = ((xs.drop l).take (u - l)).map f := by simp [List.map_drop, List.map_take]
theorem sl_from : ((xs.map f).drop l).take ((xs.map f).length - l) = (xs.drop l).map f := by
  rw [List.take_of_length_le (by simp), List.map_drop]
theorem sl_to : ((xs.map f).drop 0).take (u - 0) = (xs.take u).map f := by simp [List.map_take]
theorem fit_both (e : ys = (xs.drop l).take (u - l)) (h : fitL p xs) : fitL p ys := by
  subst e
  exact ⟨by rw [List.length_take, List.length_drop]; have := h.1; omega, fun x hx => h.2 x (List.mem_of_mem_drop (List.mem_of_mem_take hx))⟩
theorem fit_from (e : ys = xs.drop l) (h : fitL p xs) : fitL p ys := by
  subst e
  exact ⟨by rw [List.length_drop]; have := h.1; omega, fun x hx => h.2 x (List.mem_of_mem_drop hx)⟩
theorem fit_to (e : ys = xs.take u) (h : fitL p xs) : fitL p ys := by
  subst e
  exact ⟨by rw [List.length_take]; have := h.1; omega, fun x hx => h.2 x (List.mem_of_mem_take hx)⟩
theorem len_both (e : ys = (xs.drop l).take (u - l)) (h1 : l ≤ u) (h2 : u ≤ xs.length) : ys.length = u - l := by subst e; rw [List.length_take, List.length_drop]; omega
theorem len_from (e : ys = xs.drop l) : ys.length = xs.length - l := by subst e; exact List.length_drop
theorem len_to (e : ys = xs.take u) (h2 : u ≤ xs.length) : ys.length = u := by subst e; rw [List.length_take]; omega
theorem size_ext {s v : ByteArray} (e : v = s.extract l u) (h1 : l ≤ u) (h2 : u ≤ s.size) : v.size = u - l := by subst e; rw [ByteArray.size_extract]; omega
theorem fit_ext {s v : ByteArray} (e : v = s.extract l u) (h : fitS s) : fitS v := by
  subst e
  simp only [fitS, ByteArray.size_extract] at h ⊢
  omega
end

end Go.Proofs.YtglilpigoocgeaaGreatDoor.V
namespace Go.Proofs.YtglilpigoocgeaaGreatDoor.V
open Go
set_option linter.unusedVariables false
set_option linter.unusedSimpArgs false

theorem argsIn_lfs {w : World} : ∀ {xs : List Value} {vs : List Value} {FA M : List Nat}, ArgsIn w (xs.map fun x => .ro (one (.lf x))) vs FA M → vs = xs ∧ M = []
  | [], vs, FA, M, h => by cases h; exact ⟨rfl, rfl⟩
  | x :: xs, vs, FA, M, h => by
    simp only [List.map_cons] at h
    cases h with
    | ro hx t =>
      obtain ⟨us, hc, hr⟩ := hx
      have hc' : us = [_] := hc
      subst hc'
      obtain ⟨e, _⟩ := reps_one_lf hr
      obtain ⟨e1, e2⟩ := argsIn_lfs t
      subst e; subst e1
      exact ⟨rfl, e2⟩
theorem argsOut_lfs {w w' : World} : ∀ {xs : List Value} {vs : List Value}, vs.length = xs.length → ArgsOut w w' (xs.map fun x => .ro (one (.lf x))) vs []
  | [], [], _ => .nil
  | [], _ :: _, h => by simp at h
  | _ :: _, [], h => by simp at h
  | x :: xs, v :: vs, h => .ro (argsOut_lfs (by simpa using h))
/-- A call of plain values that yields a plain value and turns nothing. -/
theorem tr_pure {P : Program} {f : FuncId} {xs : List Value} {v : Value} (hent : Enter P f) (hv : sca v = true) (h : ∀ w, Calls P f xs.toArray w fun e w' => e = .returned v ∧ w' = w) : Tr P f (xs.map fun x => .ro (one (.lf x))) [one (.lf v)] := by
  refine ⟨hent, fun w vs FA M ha hM hd => ?_⟩
  obtain ⟨e1, e2⟩ := argsIn_lfs ha
  subst e1; subst e2
  refine (h w).mono fun e w' ⟨he, hw⟩ => ?_
  subst hw
  exact ⟨v, [v], [], [], he, rfl, .cons (x := one (.lf v)) (F := []) ⟨[v], rfl, .lf hv .nil⟩ .nil, argsOut_lfs rfl, by simp, by simp, Kept.refl _ _⟩

section
variable {P : Program} {o : Oper} {t : List Slot} {h : Heap} {tab : List TyI}
theorem zmin {T1 T2 : TypeId} {x y : Operand} {a b : Int} (ho : o.op = .call { callee := .builtin .min, args := #[x, y], argTypes := #[T1, T2] }) (hx : Ev t x ⟨false, [.d (dI a)]⟩) (hy : Ev t y ⟨false, [.d (dI b)]⟩) :
    Yield P o t h (.t ⟨false, [.d (dI (min a b))]⟩) := by
  intro w0 M0 A0 locs RO ac w hg hm
  have e1 := (hm.evlf hx).1
  have e2 := (hm.evlf hy).1
  refine ⟨_, ?_, TRel.single.2 (vrel_lf rfl), by simp [Slot.refs, TV.refs, VC.refs]⟩
  have : min a b = if y_lt : b < a then b else a := by split <;> omega
  simp [execOp, ho, e1, e2, resolve, Deferred.ofValue, invoke, this, builtin, run_min_int2]
theorem zminn {T1 T2 : TypeId} {x y : Operand} {a b : Nat} (ho : o.op = .call { callee := .builtin .min, args := #[x, y], argTypes := #[T1, T2] }) (hx : Ev t x ⟨false, [.d (dI (a : Int))]⟩) (hy : Ev t y ⟨false, [.d (dI (b : Int))]⟩) :
    Yield P o t h (.t ⟨false, [.d (dI ((min a b : Nat) : Int))]⟩) := by
  have := zmin (P := P) (h := h) ho hx hy
  have e : ((min a b : Nat) : Int) = min (a : Int) (b : Int) := by omega
  rw [e]; exact this
theorem min_facts {v a b : Nat} (e : v = min a b) : v ≤ a ∧ v ≤ b ∧ (v = a ∨ v = b) := by omega
theorem zlsk {T : TypeId} {x : Operand} {s : ByteArray} {n : Int} (hT : TabOk P tab) (ho : o.op = .call { callee := .builtin .len, args := #[x], argTypes := #[T] }) (hk : (ty tab T).k = .str) (hx : Ev t x ⟨false, [.d (.lf (.string s))]⟩) (hn : (s.size : Int) = n) :
    Yield P o t h (.t ⟨false, [.d (dI n)]⟩) := by subst hn; exact zls hT ho hk hx
theorem zmkn {α : Type} {f : α → List Dat} {zn : α} {T el : TypeId} {x y : Operand} {k l c n : Nat} (hT : TabOk P tab) (ho : o.op = .makeSlice T x y) (hk : (ty tab T).k = .sl el) (hel : elOk (ty tab el) n = true) (hx : Ev t x ⟨false, [.d (.lf (.int .i64 (l : Int)))]⟩)
    (hy : Ev t y ⟨false, [.d (.lf (.int .i64 (c : Int)))]⟩) (hlc : l ≤ c) (hbig : c * (ty tab el).bytes ≤ 281474976710656) (hg : h k = .gone) (hz : (ty tab el).zero = f zn) :
    DoesR P o t h (.t ⟨false, [.sr k 1 0 ((List.replicate l zn).map f).length ((List.replicate l zn).map f).length]⟩) [(k, .row n ((List.replicate l zn).map f) true 1 0)] := by
  have := zmk hT ho hk hel hx hy hlc hbig hg hz
  rw [List.length_map, List.length_replicate, List.map_replicate]
  exact this
/-- The front of a row of the call's own. -/
theorem zso {T el : TypeId} {x : Operand} {hi : Option Operand} {k g n ver len room u : Nat} {es : List (List Dat)} {dp : Bool} (hT : TabOk P tab) (ho : o.op = .slice T x none hi none) (hk : (ty tab T).k = .sl el) (hel : elOk (ty tab el) n = true)
    (hx : Ev t x ⟨false, [.sr k g 0 len room]⟩) (hh : h k = .row n es dp g ver) (hhi : SB t hi len u) (h2 : u ≤ len) : Yield P o t h (.t ⟨false, [.sr k g 0 u room]⟩) := by
  obtain ⟨hk1, hk2, _, _⟩ := elOk_of hel
  intro w0 M0 A0 locs RO a w hg hm
  have hu := (hT T (by simp [TyI.ok, hk])).slice hk
  have hsz := (hT el hk1).sizeOf w
  rw [hk2] at hsz
  obtain ⟨⟨n', es', dp', g0, ver', hc, hle, hone, hp⟩, hl⟩ := hm.ev1 hx
  rw [hh] at hc
  injection hc with a1 a2 a3 a4 a5
  subst a1 a4
  have key : ∀ (ad : Option Addr) (cap : Nat), len ≤ cap → a.eval x = .slice ad len cap → (execOp a.eval o).run P w = .ok (.value (.slice ad u cap)) w := by
    intro ad cap hcap hv
    have q1 := SB.run (P := P) (code := BoundsCode.sliceAcap) hm hhi (Nat.le_trans h2 hcap)
    have hb : (Instr.sliceBounds true len cap none (hi.map a.eval) none).run P w = .ok (0, u, cap) w := by
      cases hi with
      | none => have hu' : u = len := hhi; subst hu'; simp [Instr.sliceBounds]
      | some z =>
        simp only [Option.map_some] at q1
        simp [Instr.sliceBounds, q1]
    have hadd : (if cap = 0 then ad else ad.map (·.add (0 * n))) = ad := by
      split
      · rfl
      · cases ad <;> simp [Addr.add]
    have hs : (Instr.sliceAt T (.slice ad len cap) none (hi.map a.eval) none).run P w = .ok (.slice ad u cap) w := by
      simp only [Instr.sliceAt, Instr.slice, Go.underlying, Sem.run_bind, hu]
      simp [hu, hb, hsz, hadd]
      cases ad <;> simp [Addr.add]
    simp [execOp, ho, hv, hs]
  have hs := hp rfl
  rcases hs with ⟨b1, b2, b3, b4⟩ | ⟨b1, cap, b2, b3, b4, b5⟩
  · subst b2
    have u0 : u = 0 := by omega
    subst u0
    exact ⟨_, key none 0 (Nat.le_refl _) b4, TRel.single.2 ⟨n, es, dp, g, ver, hh, Nat.le_refl _, rfl, fun _ => .inl ⟨b1, rfl, b3, rfl⟩⟩, by simp only [Slot.refs, TV.refs, VC.refs, List.flatMap_cons, List.flatMap_nil, List.append_nil, List.mem_singleton]; rintro q rfl; rw [hh]; simp⟩
  · exact ⟨_, key _ cap (by omega) b2, TRel.single.2 ⟨n, es, dp, g, ver, hh, Nat.le_refl _, rfl, fun _ => .inr ⟨b1, cap, rfl, b3, by omega, b5⟩⟩, by simp only [Slot.refs, TV.refs, VC.refs, List.flatMap_cons, List.flatMap_nil, List.append_nil, List.mem_singleton]; rintro q rfl; rw [hh]; simp⟩
end
end Go.Proofs.YtglilpigoocgeaaGreatDoor.V
namespace Go.Proofs.YtglilpigoocgeaaGreatDoor.V
open Go
section
variable {P : Program} {o : Oper} {t : List Slot} {h : Heap} {tab : List TyI}
theorem zfp {S : TypeId} {x : Operand} {f fo fT : Nat} {cells z : List Dat} {offs : List (Nat × Nat)} (hT : TabOk P tab) (ho : o.op = .fieldAddr S x f) (hk : (ty tab S).k = .st offs) (hf : offs[f]? = some (fo, fT))
    (hx : Ev t x ⟨false, [.d (.pt cells)]⟩) (hle : fo ≤ cells.length) (hz : cells.drop fo = z) : Yield P o t h (.t ⟨false, [.d (.pt z)]⟩) := by
  subst hz
  intro w0 M0 A0 locs RO a w hg hm
  obtain ⟨⟨F, hr, hF⟩, h2⟩ := hm.ev1 hx
  have hok := hT S (by simp [TyI.ok, hk])
  obtain ⟨d, hd, hkd, hu⟩ := hok.under w
  rw [hk] at hkd
  obtain ⟨fs, rfl, hoffs, hfs⟩ := kindOk_st hkd
  have hf' : (fs.toList.map (fun f => (f.offset, f.type)))[f]? = some (fo, fT) := by rw [hoffs]; exact hf
  rw [List.getElem?_map] at hf'
  obtain ⟨fld, hfld, e⟩ := Option.map_eq_some_iff.1 hf'
  have hfld' : fs[f]? = some fld := by rw [← Array.getElem?_toList]; exact hfld
  obtain ⟨hne, hsome⟩ := hfs fld (Array.mem_of_getElem? hfld')
  obtain ⟨info, hinfo⟩ := Option.isSome_iff_exists.1 hsome
  have hsz : (Go.sizeOf fld.type).run P w = .ok info.size w := by simp [Go.sizeOf, typeInfo, hinfo]
  have hne' : info.size ≠ 0 := by simpa [Program.cellsOf, hinfo] using hne
  have efo : fld.offset = fo := by simpa using congrArg Prod.fst e
  have hrun : ∀ p, a.eval x = .pointer (some p) → (execOp a.eval o).run P w = .ok (.value (.pointer (some (p.add fo)))) w := by
    intro p ep
    simp [execOp, ho, ep, Instr.fieldAt, hu, hfld', Instr.sureAddr, fieldPlace, hsz, hne', efo]
  generalize hv : a.eval x = v at hr
  cases hr with
  | @pt _ _ _ _ G b off arr aty fr hb hbs hw g r =>
    refine ⟨_, hrun _ hv, TRel.single.2 ?_, fun o' ho' => by simp [Slot.refs, TV.refs, VC.refs] at ho'⟩
    obtain ⟨F1, F2, F3, rfl, _, g2, _⟩ := g.part (k := fo) (l := cells.length - fo)
    rw [List.take_of_length_le (by rw [List.length_drop]; omega), seg_seg (by omega)] at g2
    rw [add_plain]
    refine ⟨b :: (F2 ++ []), .pt hb (by rw [List.length_drop]; omega) (fun h => by cases h) (by rw [List.length_drop]; exact g2) .nil, fun q hq => hF q ?_⟩
    simp only [List.append_nil, List.mem_cons, List.mem_append] at hq ⊢
    rcases hq with hq | hq
    · exact .inl hq
    · exact .inr (.inl (.inr (.inl hq)))
end
/-- The slots behind the operations of a plan, entry by entry: no reckoning is left in them. -/
inductive FO : List Oper → List MOp → List (Nat × Slot) → List (Nat × Slot) → Prop
  | nil {l : List Oper} {ov : List (Nat × Slot)} : FO l [] ov ov
  | c {o : Oper} {l : List Oper} {m : MOp} {plan : List MOp} {ov ovF : List (Nat × Slot)} {d : Nat} (h : o.dst = some d) (r : FO l plan ((d, m.r) :: ov) ovF) : FO (o :: l) (m :: plan) ov ovF
theorem FO.fin {ops : Array Oper} : ∀ {ol : List Oper} {plan : List MOp} {ov ovF : List (Nat × Slot)} {i : Nat}, FO ol plan ov ovF → (∀ j, j < ol.length → ops[i + j]? = ol[j]?) → finOv ops i plan ov = ovF
  | _, _, _, _, _, .nil, _ => rfl
  | _, _, _, _, i, .c (o := o) (l := l) h r, hl => by
    have h0 : ops[i]? = some o := by simpa using hl 0 (by simp)
    simp only [finOv, h0, Option.bind_some, h]
    refine r.fin (i := i + 1) fun j hj => ?_
    have := hl (j + 1) (by simp; omega)
    rwa [← Nat.add_assoc, Nat.add_right_comm, List.getElem?_cons_succ] at this
inductive FH : List MOp → List (Nat × VO) → List (Nat × VO) → Prop
  | nil {hv : List (Nat × VO)} : FH [] hv hv
  | s {m : MOp} {plan : List MOp} {hv hvF : List (Nat × VO)} (h : m.news = []) (r : FH plan hv hvF) : FH (m :: plan) hv hvF
  | g {m : MOp} {plan : List MOp} {hv hvF hv' : List (Nat × VO)} (h : updsH hv m.news = hv') (r : FH plan hv' hvF) : FH (m :: plan) hv hvF
theorem FH.fin : ∀ {plan : List MOp} {hv hvF : List (Nat × VO)}, FH plan hv hvF → finHv plan hv = hvF
  | _, _, _, .nil => rfl
  | _, _, _, .s h r => by simp only [finHv, h, updsH]; exact r.fin
  | _, _, _, .g h r => by simp only [finHv, h]; exact r.fin
section
variable {P : Program} {ov ovF : List (Nat × Slot)} {n : Nat} {hv hvF : List (Nat × VO)} {Q : Exit → St → Prop}
theorem v_drw2 {id : Nat} {l : List Oper} (plan : List MOp) (hmix : P.follows .mixedOrders = true) (hov : FO l plan ov ovF) (hhv : FH plan hv hvF) (hok : drawOk l.toArray plan n = true) (hfree : planFree hv plan = true)
    (hops : EachO P l.toArray n ovF hvF l plan) (htail : OpsL P l.toArray (l.drop plan.length) (mk ovF n hvF) (fun s => Q .normal s)) : VWp P (.region id l.toArray true) Q (mk ov n hv) :=
  v_drw plan hmix hok (hov.fin fun j _ => by simp) hhv.fin hfree hops htail
end
theorem fitL_nil {α : Type} {f : α → Prop} : fitL f ([] : List α) := ⟨Nat.zero_le _, fun _ h => absurd h List.not_mem_nil⟩
theorem fitL_snoc {α : Type} {f : α → Prop} {l : List α} {x : α} (h : fitL f l) (hl : l.length < 4194304) (hx : f x) : fitL f (l ++ [x]) :=
  ⟨by rw [List.length_append]; simp only [List.length_cons, List.length_nil]; omega, fun y hy => by
    rcases List.mem_append.1 hy with hy | hy
    · exact h.2 y hy
    · rw [List.mem_singleton.1 hy]; exact hx⟩
/-- What an int may hold. -/
def bndI (x : Int) : Prop := -9223372036854775808 ≤ x ∧ x ≤ 9223372036854775807
theorem rd_i64 {H : Type} {enc : TypeId × Value → H} {P : Program} {W : World} {T : TypeId} (hu : P.underlying T = some (.int .i64)) (hn : P.cellsOf T = 1) : Rd enc P W T 1 (fun v : Int => [.lf (.int .i64 v)]) bndI := by
  refine ⟨hn, fun fuel cs d ps h => ?_⟩
  cases fuel with
  | zero => simp [DataW.trod] at h
  | succ fuel =>
    rcases cs with _ | ⟨v, _ | ⟨v2, l⟩⟩
    · simp [DataW.trod, hu] at h
    · cases v <;> simp [DataW.trod, hu] at h
      rename_i k' n
      obtain ⟨⟨e, h2⟩, _⟩ := h
      subst e
      simp only [Lit.wf, Bool.and_eq_true, decide_eq_true_eq] at h2
      exact ⟨n, [], .lf rfl .nil, h2, rfl⟩
    · simp [DataW.trod, hu] at h
/-! ### bytes that are marks -/
def w8 (n : Int) : Int := IntKind.wrap .u8 n
theorem w8_rng (n : Int) : 0 ≤ w8 n ∧ w8 n < 256 := by
  have e : w8 n = n % 256 := by simp [w8, IntKind.wrap, IntKind.signed, IntKind.bits]
  rw [e]; omega
theorem c_w8 {P : Program} {T T2 : TypeId} {n : Int} {w : World} (hu : P.underlying T = some (.int .i64)) (hu2 : P.underlying T2 = some (.int .u8)) : (convert T T2 (.int .i64 n)).run P w = .ok (.int .u8 (w8 n)) w := by
  simp [convert, Go.underlying, hu, hu2, Conv.intToInt, w8]
def mkY (x : Int) (k : Int) : Int × Int := (w8 k, nx k)
theorem mkY_lt : ∀ x k, k < 9223372036854775808 → (mkY x k).2 < 9223372036854775808 := fun _ k _ => nx_lt k
theorem mkY_ok : CntOk mkY wtU := fun x k h0 h1 => by
  have := nx_eq h0 (by simp only [wtU] at h1; omega)
  simp only [mkY, wtU] at h1 ⊢; omega
end Go.Proofs.YtglilpigoocgeaaGreatDoor.V
