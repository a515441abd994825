/-
  Arithmetic and comparisons of plain values, as the walk asks for them.
-/
import Derived.Test.YtkcpbahcnlhmjaaV19
namespace Go.Proofs.Ytkcpbahcnlhmjaa.V
open Go
set_option linter.unusedVariables false
set_option linter.unusedSimpArgs false

section
variable {P : Program} {T : TypeId} {a b : Int} {s u : ByteArray} {w : World}
theorem wr_i64 {n : Int} (h1 : -9223372036854775808 ≤ n) (h2 : n < 9223372036854775808) : IntKind.wrap .i64 n = n := by
  have e : IntKind.wrap .i64 n = if 9223372036854775808 ≤ n % 18446744073709551616 then n % 18446744073709551616 - 18446744073709551616 else n % 18446744073709551616 := by
    simp [IntKind.wrap, IntKind.signed, IntKind.bits]
  rw [e]
  split <;> omega
theorem b_add : (binOp .add T (.int .i64 a) (.int .i64 b)).run P w = .ok (.int .i64 (IntKind.wrap .i64 (a + b))) w := by simp [binOp_add, Op.intArith]
theorem b_sub : (binOp .sub T (.int .i64 a) (.int .i64 b)).run P w = .ok (.int .i64 (IntKind.wrap .i64 (a - b))) w := by simp [binOp_sub, Op.intArith]
theorem b_addn (h1 : -9223372036854775808 ≤ a + b) (h2 : a + b < 9223372036854775808) : (binOp .add T (.int .i64 a) (.int .i64 b)).run P w = .ok (.int .i64 (a + b)) w := by rw [b_add, wr_i64 h1 h2]
theorem b_subn (h1 : -9223372036854775808 ≤ a - b) (h2 : a - b < 9223372036854775808) : (binOp .sub T (.int .i64 a) (.int .i64 b)).run P w = .ok (.int .i64 (a - b)) w := by rw [b_sub, wr_i64 h1 h2]
theorem b_eql {k : IntKind} : (binOp .eql T (.int k a) (.int k b)).run P w = .ok (.bool (decide (a = b))) w := by
  rw [binOp_eql]
  have : (a == b) = decide (a = b) := by by_cases h : a = b <;> simp [h]
  rw [this]; rfl
theorem b_neq {k : IntKind} : (binOp .neq T (.int k a) (.int k b)).run P w = .ok (.bool (decide (a ≠ b))) w := by
  rw [binOp_neq]
  have : (a != b) = decide (a ≠ b) := by by_cases h : a = b <;> simp [h]
  rw [this]; rfl
theorem b_lss {k : IntKind} : (binOp .lss T (.int k a) (.int k b)).run P w = .ok (.bool (decide (a < b))) w := by rw [binOp_lss]; rfl
theorem b_leq {k : IntKind} : (binOp .leq T (.int k a) (.int k b)).run P w = .ok (.bool (decide (a ≤ b))) w := by rw [binOp_leq]; rfl
theorem b_gtr {k : IntKind} : (binOp .gtr T (.int k a) (.int k b)).run P w = .ok (.bool (decide (b < a))) w := by rw [binOp_gtr]; rfl
theorem b_geq {k : IntKind} : (binOp .geq T (.int k a) (.int k b)).run P w = .ok (.bool (decide (b ≤ a))) w := by rw [binOp_geq]; rfl
theorem str_beq : (s.toList == u.toList) = decide (s = u) := by
  rw [ByteArray.toList_eq, ByteArray.toList_eq]
  by_cases h : s = u
  · subst h; simp
  · have : ¬ s.data = u.data := fun hh => h (ByteArray.ext hh)
    simp [h, this]
theorem b_seql : (binOp .eql T (.string s) (.string u)).run P w = .ok (.bool (decide (s = u))) w := by rw [binOp_string_eql, str_beq]; rfl
theorem b_sneq : (binOp .neq T (.string s) (.string u)).run P w = .ok (.bool (decide (s ≠ u))) w := by
  rw [binOp_string_neq, str_beq]
  by_cases h : s = u <;> simp [h]
theorem b_sadd (h : s.size + u.size ≤ 9223372036854775807) : (binOp .add T (.string s) (.string u)).run P w = .ok (.string (s ++ u)) w := by
  rw [binOp_string_add]; simp [Op.stringOp]; omega
theorem u_not {b : Bool} : (Op.unary .not (.bool b)).run P w = .ok (.bool (!b)) w := by simp [Op.unary]
end

/-! ### data, shortly -/
abbrev dI (n : Int) : Dat := .lf (.int .i64 n)
abbrev dB (b : Bool) : Dat := .lf (.bool b)
abbrev dS (s : ByteArray) : Dat := .lf (.string s)
abbrev sc (d : Dat) : Slot := .t ⟨false, [.d d]⟩
abbrev one (d : Dat) : DV := ⟨false, [d]⟩

end Go.Proofs.Ytkcpbahcnlhmjaa.V
