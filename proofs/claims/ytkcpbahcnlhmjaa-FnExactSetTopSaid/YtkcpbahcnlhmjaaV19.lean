/-
  Steps of the walk in short form; arithmetic and comparisons of plain values.
-/
import Derived.Test.YtkcpbahcnlhmjaaV18
import Derived.Laws.Sem
namespace Go.Proofs.Ytkcpbahcnlhmjaa.V
open Go
set_option linter.unusedVariables false
set_option linter.unusedSimpArgs false

/-- Operations one behind the other, as a list. -/
def OpsL (P : Program) (ops : Array Oper) : List Oper → St → (St → Prop) → Prop
  | [], st, K => K st
  | o :: l, st, K => (o.guard = none ∧ ∃ S : St → Prop, DoesS P o st S ∧ ∀ st', S st' → OpsL P ops l st' K) ∨
       (∃ j want oj d b, o.guard = some (j, want) ∧ ops[j]? = some oj ∧ oj.dst = some d ∧ getT st.t d = .t ⟨false, [.d (.lf (.bool b))]⟩ ∧
        (b = want → ∃ S : St → Prop, DoesS P o st S ∧ ∀ st', S st' → OpsL P ops l st' K) ∧ (b ≠ want → OpsL P ops l ⟨putT st.t o.dst .dead, st.h⟩ K))

section
variable {P : Program} {ops : Array Oper} {K : St → Prop}

theorem ops_of_list : ∀ (l : List Oper) (k : Nat) (st : St), (∀ j, j < l.length → ops[k + j]? = l[j]?) → OpsL P ops l st K → Ops P ops (List.range' k l.length) st K
  | [], k, st, _, h => h
  | o :: l, k, st, hl, h => by
    have h0 : ops[k]? = some o := by simpa using hl 0 (by simp)
    have ht : ∀ st, OpsL P ops l st K → Ops P ops (List.range' (k + 1) l.length) st K := fun st h => ops_of_list l (k + 1) st (fun j hj => by
      have := hl (j + 1) (by simp; omega)
      rwa [← Nat.add_assoc, Nat.add_right_comm, List.getElem?_cons_succ] at this) h
    rw [List.length_cons, List.range'_succ]
    refine ⟨o, h0, ?_⟩
    rcases h with ⟨hg, S, hd, h⟩ | ⟨j, want, oj, d, b, e1, e2, e3, e4, h1, h2⟩
    · exact .inl ⟨hg, S, hd, fun st' hS => ht _ (h st' hS)⟩
    · refine .inr ⟨j, want, oj, d, b, e1, e2, e3, e4, fun e => ?_, fun e => ht _ (h2 e)⟩
      obtain ⟨S, hd, h⟩ := h1 e
      exact ⟨S, hd, fun st' hS => ht _ (h st' hS)⟩

theorem Does.toS {o : Oper} {st st' : St} (h : Does P o st st') : DoesS P o st (· = st') :=
  fun w0 M0 A0 a w K Q hr hk => h w0 M0 A0 a w K Q hr fun a' w' hr' => hk st' a' w' rfl hr'
theorem s_one {o : Oper} {l : List Oper} {st st' : St} (hg : o.guard = none) (hd : Does P o st st') (hk : OpsL P ops l st' K) : OpsL P ops (o :: l) st K :=
  .inl ⟨hg, _, hd.toS, fun st2 e => by subst e; exact hk⟩

theorem v_reg {id : Nat} {l : List Oper} {st : St} {Q : Exit → St → Prop} (h : OpsL P l.toArray l st (fun s => Q .normal s)) : VWp P (.region id l.toArray false) Q st := by
  refine v_region ?_
  have := ops_of_list (ops := l.toArray) l 0 st (fun j hj => by simp) h
  rwa [List.size_toArray, List.range_eq_range']

theorem s_end {st : St} (h : K st) : OpsL P ops [] st K := h
theorem s_y {o : Oper} {l : List Oper} {t t' : List Slot} {h : Heap} {r : Slot} (hy : Yield P o t h r) (hg : o.guard = none) (ht : putT t o.dst r = t') (hk : OpsL P ops l ⟨t', h⟩ K) : OpsL P ops (o :: l) ⟨t, h⟩ K :=
  s_one hg hy.one (by rw [ht]; exact hk)
theorem s_r {o : Oper} {l : List Oper} {t t' : List Slot} {h h' : Heap} {r : Slot} {news : List (Nat × VO)} (hy : DoesR P o t h r news) (hg : o.guard = none) (ht : putT t o.dst r = t') (hh : updAll h news = h') (hk : OpsL P ops l ⟨t', h'⟩ K) : OpsL P ops (o :: l) ⟨t, h⟩ K :=
  s_one hg hy.does (by rw [ht, hh]; exact hk)
theorem s_k {o : Oper} {l : List Oper} {t t' : List Slot} {h h' : Heap} {r : Slot} {news : List (Nat × VO)} {G : List Nat} (hy : DoesK P o t h r news G) (hg : o.guard = none) (ht : putT (t.map (eraseS G)) o.dst r = t') (hh : updAll (letgo G h) news = h')
    (hk : OpsL P ops l ⟨t', h'⟩ K) : OpsL P ops (o :: l) ⟨t, h⟩ K :=
  s_one hg hy.does (by rw [ht, hh]; exact hk)
theorem s_d {o : Oper} {l : List Oper} {t t1 t' : List Slot} {h h1 h' : Heap} (hy : Does P o ⟨t, h⟩ ⟨t1, h1⟩) (hg : o.guard = none) (ht : t1 = t') (hh : h1 = h') (hk : OpsL P ops l ⟨t', h'⟩ K) : OpsL P ops (o :: l) ⟨t, h⟩ K :=
  s_one hg hy (by rw [ht, hh]; exact hk)
/-- An operation under a guard that is met: as one without; one under a guard that is not: nothing. -/
theorem g_run {o oj : Oper} {l : List Oper} {t : List Slot} {h : Heap} {j d : Nat} {want b : Bool} (hg : o.guard = some (j, want)) (hj : ops[j]? = some oj) (hd : oj.dst = some d) (hb : getT t d = .t ⟨false, [.d (.lf (.bool b))]⟩)
    (hw : b = want) (hk : OpsL P ops ({ o with guard := none } :: l) ⟨t, h⟩ K) : OpsL P ops (o :: l) ⟨t, h⟩ K := by
  rcases hk with ⟨_, S, h1, h2⟩ | ⟨j', want', oj', d', b', e1, _⟩
  · exact .inr ⟨j, want, oj, d, b, hg, hj, hd, hb, fun _ => ⟨S, h1, h2⟩, fun hne => absurd hw hne⟩
  · cases e1
theorem g_skip {o oj : Oper} {l : List Oper} {t t' : List Slot} {h : Heap} {j d : Nat} {want b : Bool} (hg : o.guard = some (j, want)) (hj : ops[j]? = some oj) (hd : oj.dst = some d) (hb : getT t d = .t ⟨false, [.d (.lf (.bool b))]⟩)
    (hw : b = !want) (ht : putT t o.dst .dead = t') (hk : OpsL P ops l ⟨t', h⟩ K) : OpsL P ops (o :: l) ⟨t, h⟩ K :=
  .inr ⟨j, want, oj, d, b, hg, hj, hd, hb, fun e => absurd (e.symm.trans hw) (by simp), fun _ => by rw [ht]; exact hk⟩
theorem s_s {o : Oper} {l : List Oper} {st : St} {S : St → Prop} (hd : DoesS P o st S) (hg : o.guard = none) (hk : ∀ st', S st' → OpsL P ops l st' K) : OpsL P ops (o :: l) st K := .inl ⟨hg, S, hd, hk⟩

/-- The heap as a list. -/
theorem upd_heapOf {l : List VO} {k : Nat} {o : VO} (hk : k < l.length) : upd (heapOf l) k o = heapOf (l.set k o) := by
  funext j
  simp only [upd, heapOf, List.getD_eq_getElem?_getD, List.getElem?_set]
  by_cases e : k = j
  · subst e; simp [hk]
  · have : ¬ j = k := fun h => e h.symm
    simp [e, this]
theorem upd_push {l : List VO} {o : VO} : upd (heapOf l) l.length o = heapOf (l ++ [o]) := by
  funext j
  simp only [upd, heapOf, List.getD_eq_getElem?_getD, List.getElem?_append]
  by_cases e : j = l.length
  · subst e; simp
  · by_cases hl : j < l.length
    · simp [e, hl]
    · have : ¬ j - l.length = 0 := by omega
      simp only [if_neg e, if_neg hl]
      rw [List.getElem?_eq_none (by omega), List.getElem?_eq_none (by simp; omega)]
end

/-! ### plain values -/
section
variable {P : Program}
theorem b_int (n : Int) : sca (.int .i64 n) = true := rfl
end

end Go.Proofs.Ytkcpbahcnlhmjaa.V
