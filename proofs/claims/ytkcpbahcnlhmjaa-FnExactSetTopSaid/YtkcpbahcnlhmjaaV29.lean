/-
  How far marks count.
-/
import Derived.Test.YtkcpbahcnlhmjaaV28
namespace Go.Proofs.Ytkcpbahcnlhmjaa.V
open Go
set_option linter.unusedVariables false
set_option linter.unusedSimpArgs false

/-- A step of marks counts up, and no further than the weight allows. -/
def CntOk {α : Type} (f : α → Int → α × Int) (wt : α → Nat) : Prop :=
  ∀ x k, 0 ≤ k → k + 16 + 16 * (wt x : Int) < 4611686018427387904 → k ≤ (f x k).2 ∧ (f x k).2 ≤ k + 16 + 16 * (wt x : Int)
section
variable {α : Type} {f : α → Int → α × Int} {wt : α → Nat} {xs : List α} {k : Int} {i : Nat} {x : α}
theorem wtL_cons : wtL wt (x :: xs) = 1 + wt x + wtL wt xs := by simp [wtL]; omega
theorem mkL_ge (hf : CntOk f wt) : ∀ {xs : List α} {k : Int}, 0 ≤ k → k + 16 * (wtL wt xs : Int) < 4611686018427387904 → k ≤ (mkL f xs k).2 ∧ (mkL f xs k).2 ≤ k + 16 * (wtL wt xs : Int)
  | [], k, h0, h1 => by simp [mkL, wtL]
  | x :: l, k, h0, h1 => by
    rw [wtL_cons] at h1 ⊢
    simp only [mkL]
    have h2 := hf x k h0 (by omega)
    have h3 := mkL_ge hf (xs := l) (k := (f x k).2) (by omega) (by omega)
    omega
theorem wtL_le {C : Nat} : ∀ {xs : List α}, (∀ x ∈ xs, wt x ≤ C) → wtL wt xs ≤ xs.length * (1 + C)
  | [], _ => by simp [wtL]
  | x :: l, h => by
    have h1 := wtL_le (xs := l) fun y hy => h y (by simp [hy])
    have h2 := h x (by simp)
    rw [wtL_cons, List.length_cons, Nat.add_mul, Nat.one_mul]; omega
theorem wtL_le2 {C D : Nat} (hl : xs.length ≤ 4194304) (h : ∀ x ∈ xs, wt x ≤ C) (hD : 4194304 * (1 + C) = D) : wtL wt xs ≤ D := by
  rw [← hD]; exact Nat.le_trans (wtL_le h) (Nat.mul_le_mul_right _ hl)
theorem wtL_take : wtL wt (xs.take i) + wtL wt (xs.drop i) = wtL wt xs := by
  conv => rhs; rw [← List.take_append_drop i xs]
  simp only [wtL, List.length_append, List.map_append, List.sum_append]; omega
theorem kTo_ge (hf : CntOk f wt) (h0 : 0 ≤ k) (h1 : k + 16 * (wtL wt xs : Int) < 4611686018427387904) : k ≤ kTo f xs k i ∧ kTo f xs k i + 16 * (wtL wt (xs.drop i) : Int) ≤ k + 16 * (wtL wt xs : Int) := by
  have e := wtL_take (wt := wt) (xs := xs) (i := i)
  have := mkL_ge hf (xs := xs.take i) h0 (by omega)
  simp only [kTo]; omega
theorem drop_wt (h : xs[i]? = some x) : wtL wt (xs.drop i) = 1 + wt x + wtL wt (xs.drop (i + 1)) := by
  have hi := lt_of_some h
  have hx : xs[i] = x := (List.getElem?_eq_some_iff.1 h).2
  rw [List.drop_eq_getElem_cons hi, wtL_cons, hx]
theorem mkI_ok : CntOk mkI wtU := fun x k h0 h1 => by
  have := nx_eq h0 (by simp only [wtU] at h1; omega)
  simp only [mkI, wtU] at h1 ⊢; omega
theorem mkS_ok : CntOk mkS wtU := fun x k h0 h1 => by
  have := nx_eq h0 (by simp only [wtU] at h1; omega)
  simp only [mkS, wtU] at h1 ⊢; omega
/-- The marked list's elements, with their counters. -/
theorem mkL_get : ∀ {xs : List α} {k : Int} {i : Nat} {x : α}, xs[i]? = some x → (mkL f xs k).1[i]? = some (f x (kTo f xs k i)).1
  | [], k, i, x, h => by simp at h
  | y :: l, k, 0, x, h => by simp at h; subst h; simp [mkL, kTo]
  | y :: l, k, i + 1, x, h => by
    simp only [mkL, List.getElem?_cons_succ] at h ⊢
    rw [mkL_get h]
    simp [kTo, mkL]
end

end Go.Proofs.Ytkcpbahcnlhmjaa.V
