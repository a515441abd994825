/-
  Native loops as recursions over lists.
-/
import Derived.Test.YtkcpbahcnlhmjaaV31
namespace Go.Proofs.Ytkcpbahcnlhmjaa.V
open Go
set_option linter.unusedVariables false
set_option linter.unusedSimpArgs false

section
variable {α σ R : Type}
/-- A recursion over a list that may end early. -/
def iter (step : α → σ → Nat → (σ → R) → R) (done : σ → R) : List α → σ → Nat → R
  | [], s, _ => done s
  | x :: l, s, i => step x s i fun s' => iter step done l s' (i + 1)
theorem atL_lt [Inhabited R] {xs : List α} {i : Nat} {f : α → R} (h : i < xs.length) : atL xs i f = f xs[i] := by
  simp only [atL, List.getElem?_eq_getElem h]
/-- A loop over places is a recursion over the list. -/
theorem loop_iter [Inhabited R] {xs : List α} {f : Nat → σ → Nat → R} {step : α → σ → Nat → (σ → R) → R} {done : σ → R}
    (hs : ∀ n s i, f (n + 1) s i = cond (decide ((i : Int) < (xs.length : Int))) (atL xs i fun x => step x s i fun s' => f n s' (i + 1)) (done s)) :
    ∀ (n i : Nat) (s : σ), i ≤ xs.length → i + n = xs.length + 1 → f n s i = iter step done (xs.drop i) s i
  | 0, i, s, h1, h2 => by omega
  | n + 1, i, s, h1, h2 => by
    rw [hs]
    rcases Nat.lt_or_ge i xs.length with h | h
    · have e : (decide ((i : Int) < (xs.length : Int))) = true := by simp; omega
      rw [e, cond_true, atL_lt h, List.drop_eq_getElem_cons h]
      simp only [iter]
      congr 1
      funext s'
      exact loop_iter hs n (i + 1) s' (by omega) (by omega)
    · have e : (decide ((i : Int) < (xs.length : Int))) = false := by simp; omega
      rw [e, cond_false, List.drop_eq_nil_of_le h]
      rfl
/-- Gathering, element by element. -/
theorem iter_map {β : Type} {g : α → β} {done : List β → R} : ∀ {l : List α} {s : List β} {i : Nat}, iter (fun x s _ k => k (s ++ [g x])) done l s i = done (s ++ l.map g)
  | [], s, i => by simp [iter]
  | x :: l, s, i => by simp only [iter]; rw [iter_map]; simp
end

end Go.Proofs.Ytkcpbahcnlhmjaa.V
