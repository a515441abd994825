/-
  Functions of the program.
-/
import Derived.Test.YtkcpbahcnlhmjaaDoorN
import Derived.Laws.StructEq
import Derived.Tactics
namespace Go.Proofs.YtkcpbahcnlhmjaaDoor.V
open Go
set_option linter.unusedVariables false
set_option linter.unusedSimpArgs false
open Go.RowKit
theorem reqs33 (a b : Quest) (x y : Operand) (w : Go.World) : (do eqGuard .eql 33 x y (.agg [.string a.Name, .int .i64 a.Typ].toArray) (.agg [.string b.Name, .int .i64 b.Typ].toArray); binOp .eql 33 (.agg [.string a.Name, .int .i64 a.Typ].toArray) (.agg [.string b.Name, .int .i64 b.Typ].toArray) : Sem Value).run Tryd.prog w = .ok (.bool (decide (a = b))) w := by
  obtain ⟨a0, a1⟩ := a
  obtain ⟨b0, b1⟩ := b
  go_simp
  try simp only [tl_inj]
  repeat' split
  all_goals simp_all
theorem zeqs33 {a b : Quest} {o : Oper} {t : List Slot} {h : Heap} {x y : Operand} {T' : TypeId} (ho : o.op = .binOp .eql 33 x y T') (hx : Ev t x ⟨true, a.cells.map .d⟩) (hy : Ev t y ⟨true, b.cells.map .d⟩) : Yield Tryd.prog o t h (.t ⟨false, [.d (dB (decide (a = b)))]⟩) :=
  y_eqs (us := [.string a.Name, .int .i64 a.Typ]) (vs := [.string b.Name, .int .i64 b.Typ]) ho hx hy (fun w => reqs33 a b x y w)
theorem reqn33 (a b : Quest) (x y : Operand) (w : Go.World) : (do eqGuard .neq 33 x y (.agg [.string a.Name, .int .i64 a.Typ].toArray) (.agg [.string b.Name, .int .i64 b.Typ].toArray); binOp .neq 33 (.agg [.string a.Name, .int .i64 a.Typ].toArray) (.agg [.string b.Name, .int .i64 b.Typ].toArray) : Sem Value).run Tryd.prog w = .ok (.bool (decide (a ≠ b))) w := by
  obtain ⟨a0, a1⟩ := a
  obtain ⟨b0, b1⟩ := b
  go_simp
  try simp only [tl_inj]
  repeat' split
  all_goals simp_all
theorem zeqn33 {a b : Quest} {o : Oper} {t : List Slot} {h : Heap} {x y : Operand} {T' : TypeId} (ho : o.op = .binOp .neq 33 x y T') (hx : Ev t x ⟨true, a.cells.map .d⟩) (hy : Ev t y ⟨true, b.cells.map .d⟩) : Yield Tryd.prog o t h (.t ⟨false, [.d (dB (decide (a ≠ b)))]⟩) :=
  y_eqs (us := [.string a.Name, .int .i64 a.Typ]) (vs := [.string b.Name, .int .i64 b.Typ]) ho hx hy (fun w => reqn33 a b x y w)
theorem reqs35 (a b : Exch) (x y : Operand) (w : Go.World) : (do eqGuard .eql 35 x y (.agg [.int .i64 a.Id, .int .i64 a.Addr, .int .i64 a.Try, .int .i64 a.Due].toArray) (.agg [.int .i64 b.Id, .int .i64 b.Addr, .int .i64 b.Try, .int .i64 b.Due].toArray); binOp .eql 35 (.agg [.int .i64 a.Id, .int .i64 a.Addr, .int .i64 a.Try, .int .i64 a.Due].toArray) (.agg [.int .i64 b.Id, .int .i64 b.Addr, .int .i64 b.Try, .int .i64 b.Due].toArray) : Sem Value).run Tryd.prog w = .ok (.bool (decide (a = b))) w := by
  obtain ⟨a0, a1, a2, a3⟩ := a
  obtain ⟨b0, b1, b2, b3⟩ := b
  go_simp
  try simp only [tl_inj]
  repeat' split
  all_goals simp_all
theorem zeqs35 {a b : Exch} {o : Oper} {t : List Slot} {h : Heap} {x y : Operand} {T' : TypeId} (ho : o.op = .binOp .eql 35 x y T') (hx : Ev t x ⟨true, a.cells.map .d⟩) (hy : Ev t y ⟨true, b.cells.map .d⟩) : Yield Tryd.prog o t h (.t ⟨false, [.d (dB (decide (a = b)))]⟩) :=
  y_eqs (us := [.int .i64 a.Id, .int .i64 a.Addr, .int .i64 a.Try, .int .i64 a.Due]) (vs := [.int .i64 b.Id, .int .i64 b.Addr, .int .i64 b.Try, .int .i64 b.Due]) ho hx hy (fun w => reqs35 a b x y w)
theorem reqn35 (a b : Exch) (x y : Operand) (w : Go.World) : (do eqGuard .neq 35 x y (.agg [.int .i64 a.Id, .int .i64 a.Addr, .int .i64 a.Try, .int .i64 a.Due].toArray) (.agg [.int .i64 b.Id, .int .i64 b.Addr, .int .i64 b.Try, .int .i64 b.Due].toArray); binOp .neq 35 (.agg [.int .i64 a.Id, .int .i64 a.Addr, .int .i64 a.Try, .int .i64 a.Due].toArray) (.agg [.int .i64 b.Id, .int .i64 b.Addr, .int .i64 b.Try, .int .i64 b.Due].toArray) : Sem Value).run Tryd.prog w = .ok (.bool (decide (a ≠ b))) w := by
  obtain ⟨a0, a1, a2, a3⟩ := a
  obtain ⟨b0, b1, b2, b3⟩ := b
  go_simp
  try simp only [tl_inj]
  repeat' split
  all_goals simp_all
theorem zeqn35 {a b : Exch} {o : Oper} {t : List Slot} {h : Heap} {x y : Operand} {T' : TypeId} (ho : o.op = .binOp .neq 35 x y T') (hx : Ev t x ⟨true, a.cells.map .d⟩) (hy : Ev t y ⟨true, b.cells.map .d⟩) : Yield Tryd.prog o t h (.t ⟨false, [.d (dB (decide (a ≠ b)))]⟩) :=
  y_eqs (us := [.int .i64 a.Id, .int .i64 a.Addr, .int .i64 a.Try, .int .i64 a.Due]) (vs := [.int .i64 b.Id, .int .i64 b.Addr, .int .i64 b.Try, .int .i64 b.Due]) ho hx hy (fun w => reqn35 a b x y w)
theorem reqs113 (a b : Record) (x y : Operand) (w : Go.World) : (do eqGuard .eql 113 x y (.agg [.string a.Name, .int .i64 a.Typ, .int .i64 a.Ttl, .int .i64 a.N, .string a.Host, .string a.Text].toArray) (.agg [.string b.Name, .int .i64 b.Typ, .int .i64 b.Ttl, .int .i64 b.N, .string b.Host, .string b.Text].toArray); binOp .eql 113 (.agg [.string a.Name, .int .i64 a.Typ, .int .i64 a.Ttl, .int .i64 a.N, .string a.Host, .string a.Text].toArray) (.agg [.string b.Name, .int .i64 b.Typ, .int .i64 b.Ttl, .int .i64 b.N, .string b.Host, .string b.Text].toArray) : Sem Value).run Tryd.prog w = .ok (.bool (decide (a = b))) w := by
  obtain ⟨a0, a1, a2, a3, a4, a5⟩ := a
  obtain ⟨b0, b1, b2, b3, b4, b5⟩ := b
  go_simp
  try simp only [tl_inj]
  repeat' split
  all_goals simp_all
theorem zeqs113 {a b : Record} {o : Oper} {t : List Slot} {h : Heap} {x y : Operand} {T' : TypeId} (ho : o.op = .binOp .eql 113 x y T') (hx : Ev t x ⟨true, a.cells.map .d⟩) (hy : Ev t y ⟨true, b.cells.map .d⟩) : Yield Tryd.prog o t h (.t ⟨false, [.d (dB (decide (a = b)))]⟩) :=
  y_eqs (us := [.string a.Name, .int .i64 a.Typ, .int .i64 a.Ttl, .int .i64 a.N, .string a.Host, .string a.Text]) (vs := [.string b.Name, .int .i64 b.Typ, .int .i64 b.Ttl, .int .i64 b.N, .string b.Host, .string b.Text]) ho hx hy (fun w => reqs113 a b x y w)
theorem reqn113 (a b : Record) (x y : Operand) (w : Go.World) : (do eqGuard .neq 113 x y (.agg [.string a.Name, .int .i64 a.Typ, .int .i64 a.Ttl, .int .i64 a.N, .string a.Host, .string a.Text].toArray) (.agg [.string b.Name, .int .i64 b.Typ, .int .i64 b.Ttl, .int .i64 b.N, .string b.Host, .string b.Text].toArray); binOp .neq 113 (.agg [.string a.Name, .int .i64 a.Typ, .int .i64 a.Ttl, .int .i64 a.N, .string a.Host, .string a.Text].toArray) (.agg [.string b.Name, .int .i64 b.Typ, .int .i64 b.Ttl, .int .i64 b.N, .string b.Host, .string b.Text].toArray) : Sem Value).run Tryd.prog w = .ok (.bool (decide (a ≠ b))) w := by
  obtain ⟨a0, a1, a2, a3, a4, a5⟩ := a
  obtain ⟨b0, b1, b2, b3, b4, b5⟩ := b
  go_simp
  try simp only [tl_inj]
  repeat' split
  all_goals simp_all
theorem zeqn113 {a b : Record} {o : Oper} {t : List Slot} {h : Heap} {x y : Operand} {T' : TypeId} (ho : o.op = .binOp .neq 113 x y T') (hx : Ev t x ⟨true, a.cells.map .d⟩) (hy : Ev t y ⟨true, b.cells.map .d⟩) : Yield Tryd.prog o t h (.t ⟨false, [.d (dB (decide (a ≠ b)))]⟩) :=
  y_eqs (us := [.string a.Name, .int .i64 a.Typ, .int .i64 a.Ttl, .int .i64 a.N, .string a.Host, .string a.Text]) (vs := [.string b.Name, .int .i64 b.Typ, .int .i64 b.Ttl, .int .i64 b.N, .string b.Host, .string b.Text]) ho hx hy (fun w => reqn113 a b x y w)
end Go.Proofs.YtkcpbahcnlhmjaaDoor.V
