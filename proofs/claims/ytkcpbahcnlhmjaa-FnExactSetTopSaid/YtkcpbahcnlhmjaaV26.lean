/-
  Weights and bounds of native values.
-/
import Derived.Test.YtkcpbahcnlhmjaaV25
namespace Go.Proofs.Ytkcpbahcnlhmjaa.V
open Go
set_option linter.unusedVariables false

def fitU {α : Type} (x : α) : Prop := True
def fitS (s : ByteArray) : Prop := s.size ≤ 4194304
def fitL {α : Type} (f : α → Prop) (xs : List α) : Prop := xs.length ≤ 4194304 ∧ ∀ x ∈ xs, f x
def bndU {α : Type} (x : α) : Prop := True
def bndS (s : ByteArray) : Prop := s.size ≤ 9223372036854775807
def bndL {α : Type} (f : α → Prop) (xs : List α) : Prop := xs.length ≤ 9223372036854775807 ∧ ∀ x ∈ xs, f x
def wtU {α : Type} (x : α) : Nat := 0
def wtL {α : Type} (f : α → Nat) (xs : List α) : Nat := xs.length + (xs.map f).sum
section
variable {α : Type} {f : α → Nat} {p : α → Prop} {xs : List α} {i : Nat} {x : α}
def wtTo (f : α → Nat) (xs : List α) (i : Nat) : Nat := ((xs.take i).map f).sum
def allTo (p : α → Prop) (xs : List α) (i : Nat) : Prop := ∀ x ∈ xs.take i, p x
theorem wtTo_succ (h : xs[i]? = some x) : wtTo f xs (i + 1) = wtTo f xs i + f x := by
  simp only [wtTo]; rw [List.take_add_one, h, List.map_append, List.sum_append]; simp
theorem wtTo_end (h : i = xs.length) : wtL f xs = xs.length + wtTo f xs i := by subst h; simp [wtL, wtTo]
theorem allTo_zero : allTo p xs 0 := by intro x hx; simp at hx
theorem allTo_succ (h : xs[i]? = some x) (ha : allTo p xs i) (hx : p x) : allTo p xs (i + 1) := by
  intro y hy
  rw [List.take_add_one, h] at hy
  simp only [Option.toList_some, List.mem_append, List.mem_singleton] at hy
  rcases hy with hy | rfl
  · exact ha y hy
  · exact hx
theorem allTo_end (h : i = xs.length) (ha : allTo p xs i) : ∀ x ∈ xs, p x := by
  subst h; intro x hx; exact ha x (by simpa using hx)
theorem wtL_u : wtL (wtU (α := α)) xs = xs.length := by
  have : (xs.map (wtU (α := α))).sum = 0 := by induction xs <;> simp_all [wtU]
  simp [wtL, this]
end

end Go.Proofs.Ytkcpbahcnlhmjaa.V
