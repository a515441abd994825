/-
  Marks, natively; weights.
-/
import Derived.Test.YtkcpbahcnlhmjaaDoorN
namespace Go.Proofs.YtkcpbahcnlhmjaaDoor.V
open Go
set_option linter.unusedVariables false
set_option linter.unusedSimpArgs false
theorem Quest.wt_le (a : Quest) (h : a.Fit) : a.wt ≤ 0 := by
  simp only [Quest.wt]
  omega
theorem Record.wt_le (a : Record) (h : a.Fit) : a.wt ≤ 0 := by
  simp only [Record.wt]
  omega
theorem Exch.wt_le (a : Exch) (h : a.Fit) : a.wt ≤ 0 := by
  simp only [Exch.wt]
  omega
theorem Frame.wt_le (a : Frame) (h : a.Fit) : a.wt ≤ 12582912 := by
  simp only [Frame.wt]
  have := a.Ask.wt_le h.Ask
  have := a.Q.wt_le h.Q
  have := wtL_le2 (wt := Record.wt) (C := 0) (D := 4194304) h.Links.1 (fun x hx => x.wt_le (h.Links.2 x hx)) rfl
  have := wtL_le2 (wt := wtU) (C := 0) (D := 4194304) h.Servers.1 (fun x hx => Nat.le_refl _) rfl
  have := wtL_le2 (wt := wtU) (C := 0) (D := 4194304) h.Need.1 (fun x hx => Nat.le_refl _) rfl
  have := a.X.wt_le h.X
  omega
theorem Entry.wt_le (a : Entry) (h : a.Fit) : a.wt ≤ 4194304 := by
  simp only [Entry.wt]
  have := a.Q.wt_le h.Q
  have := wtL_le2 (wt := Record.wt) (C := 0) (D := 4194304) h.L.1 (fun x hx => x.wt_le (h.L.2 x hx)) rfl
  omega
theorem Cache.wt_le (a : Cache) (h : a.Fit) : a.wt ≤ 17592190238720 := by
  simp only [Cache.wt]
  have := wtL_le2 (wt := Entry.wt) (C := 4194304) (D := 17592190238720) h.L.1 (fun x hx => x.wt_le (h.L.2 x hx)) rfl
  omega
theorem Conf.wt_le (a : Conf) (h : a.Fit) : a.wt ≤ 4194304 := by
  simp only [Conf.wt]
  have := wtL_le2 (wt := wtU) (C := 0) (D := 4194304) h.Roots.1 (fun x hx => Nat.le_refl _) rfl
  omega
theorem Job.wt_le (a : Job) (h : a.Fit) : a.wt ≤ 52776562327552 := by
  simp only [Job.wt]
  have := a.Ask.wt_le h.Ask
  have := wtL_le2 (wt := Frame.wt) (C := 12582912) (D := 52776562327552) h.Stack.1 (fun x hx => x.wt_le (h.Stack.2 x hx)) rfl
  omega
end Go.Proofs.YtkcpbahcnlhmjaaDoor.V
