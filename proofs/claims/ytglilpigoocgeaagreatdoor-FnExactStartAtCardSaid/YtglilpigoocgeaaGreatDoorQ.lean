/-
  Functions of the program.
-/
import Derived.Test.YtglilpigoocgeaaGreatDoorN
import Derived.Laws.StructEq
import Derived.Tactics
namespace Go.Proofs.YtglilpigoocgeaaGreatDoor.V
open Go
set_option linter.unusedVariables false
set_option linter.unusedSimpArgs false
open Go.RowKit
theorem reqs61 (a b : Quest) (x y : Operand) (w : Go.World) : (do eqGuard .eql 61 x y (.agg [.string a.Name, .int .i64 a.Typ].toArray) (.agg [.string b.Name, .int .i64 b.Typ].toArray); binOp .eql 61 (.agg [.string a.Name, .int .i64 a.Typ].toArray) (.agg [.string b.Name, .int .i64 b.Typ].toArray) : Sem Value).run Tryz.prog w = .ok (.bool (decide (a = b))) w := by
  obtain ⟨a0, a1⟩ := a
  obtain ⟨b0, b1⟩ := b
  go_simp
  try simp only [tl_inj]
  repeat' split
  all_goals simp_all
theorem zeqs61 {a b : Quest} {o : Oper} {t : List Slot} {h : Heap} {x y : Operand} {T' : TypeId} (ho : o.op = .binOp .eql 61 x y T') (hx : Ev t x ⟨true, a.cells.map .d⟩) (hy : Ev t y ⟨true, b.cells.map .d⟩) : Yield Tryz.prog o t h (.t ⟨false, [.d (dB (decide (a = b)))]⟩) :=
  y_eqs (us := [.string a.Name, .int .i64 a.Typ]) (vs := [.string b.Name, .int .i64 b.Typ]) ho hx hy (fun w => reqs61 a b x y w)
theorem reqn61 (a b : Quest) (x y : Operand) (w : Go.World) : (do eqGuard .neq 61 x y (.agg [.string a.Name, .int .i64 a.Typ].toArray) (.agg [.string b.Name, .int .i64 b.Typ].toArray); binOp .neq 61 (.agg [.string a.Name, .int .i64 a.Typ].toArray) (.agg [.string b.Name, .int .i64 b.Typ].toArray) : Sem Value).run Tryz.prog w = .ok (.bool (decide (a ≠ b))) w := by
  obtain ⟨a0, a1⟩ := a
  obtain ⟨b0, b1⟩ := b
  go_simp
  try simp only [tl_inj]
  repeat' split
  all_goals simp_all
theorem zeqn61 {a b : Quest} {o : Oper} {t : List Slot} {h : Heap} {x y : Operand} {T' : TypeId} (ho : o.op = .binOp .neq 61 x y T') (hx : Ev t x ⟨true, a.cells.map .d⟩) (hy : Ev t y ⟨true, b.cells.map .d⟩) : Yield Tryz.prog o t h (.t ⟨false, [.d (dB (decide (a ≠ b)))]⟩) :=
  y_eqs (us := [.string a.Name, .int .i64 a.Typ]) (vs := [.string b.Name, .int .i64 b.Typ]) ho hx hy (fun w => reqn61 a b x y w)
theorem reqs84 (a b : Record) (x y : Operand) (w : Go.World) : (do eqGuard .eql 84 x y (.agg [.string a.Name, .int .i64 a.Typ, .int .i64 a.Ttl, .int .i64 a.N, .string a.Host, .string a.Text].toArray) (.agg [.string b.Name, .int .i64 b.Typ, .int .i64 b.Ttl, .int .i64 b.N, .string b.Host, .string b.Text].toArray); binOp .eql 84 (.agg [.string a.Name, .int .i64 a.Typ, .int .i64 a.Ttl, .int .i64 a.N, .string a.Host, .string a.Text].toArray) (.agg [.string b.Name, .int .i64 b.Typ, .int .i64 b.Ttl, .int .i64 b.N, .string b.Host, .string b.Text].toArray) : Sem Value).run Tryz.prog w = .ok (.bool (decide (a = b))) w := by
  obtain ⟨a0, a1, a2, a3, a4, a5⟩ := a
  obtain ⟨b0, b1, b2, b3, b4, b5⟩ := b
  go_simp
  try simp only [tl_inj]
  repeat' split
  all_goals simp_all
theorem zeqs84 {a b : Record} {o : Oper} {t : List Slot} {h : Heap} {x y : Operand} {T' : TypeId} (ho : o.op = .binOp .eql 84 x y T') (hx : Ev t x ⟨true, a.cells.map .d⟩) (hy : Ev t y ⟨true, b.cells.map .d⟩) : Yield Tryz.prog o t h (.t ⟨false, [.d (dB (decide (a = b)))]⟩) :=
  y_eqs (us := [.string a.Name, .int .i64 a.Typ, .int .i64 a.Ttl, .int .i64 a.N, .string a.Host, .string a.Text]) (vs := [.string b.Name, .int .i64 b.Typ, .int .i64 b.Ttl, .int .i64 b.N, .string b.Host, .string b.Text]) ho hx hy (fun w => reqs84 a b x y w)
theorem reqn84 (a b : Record) (x y : Operand) (w : Go.World) : (do eqGuard .neq 84 x y (.agg [.string a.Name, .int .i64 a.Typ, .int .i64 a.Ttl, .int .i64 a.N, .string a.Host, .string a.Text].toArray) (.agg [.string b.Name, .int .i64 b.Typ, .int .i64 b.Ttl, .int .i64 b.N, .string b.Host, .string b.Text].toArray); binOp .neq 84 (.agg [.string a.Name, .int .i64 a.Typ, .int .i64 a.Ttl, .int .i64 a.N, .string a.Host, .string a.Text].toArray) (.agg [.string b.Name, .int .i64 b.Typ, .int .i64 b.Ttl, .int .i64 b.N, .string b.Host, .string b.Text].toArray) : Sem Value).run Tryz.prog w = .ok (.bool (decide (a ≠ b))) w := by
  obtain ⟨a0, a1, a2, a3, a4, a5⟩ := a
  obtain ⟨b0, b1, b2, b3, b4, b5⟩ := b
  go_simp
  try simp only [tl_inj]
  repeat' split
  all_goals simp_all
theorem zeqn84 {a b : Record} {o : Oper} {t : List Slot} {h : Heap} {x y : Operand} {T' : TypeId} (ho : o.op = .binOp .neq 84 x y T') (hx : Ev t x ⟨true, a.cells.map .d⟩) (hy : Ev t y ⟨true, b.cells.map .d⟩) : Yield Tryz.prog o t h (.t ⟨false, [.d (dB (decide (a ≠ b)))]⟩) :=
  y_eqs (us := [.string a.Name, .int .i64 a.Typ, .int .i64 a.Ttl, .int .i64 a.N, .string a.Host, .string a.Text]) (vs := [.string b.Name, .int .i64 b.Typ, .int .i64 b.Ttl, .int .i64 b.N, .string b.Host, .string b.Text]) ho hx hy (fun w => reqn84 a b x y w)
end Go.Proofs.YtglilpigoocgeaaGreatDoor.V
