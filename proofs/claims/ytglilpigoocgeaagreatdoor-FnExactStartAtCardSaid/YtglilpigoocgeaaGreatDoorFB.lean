/-
  Frames and jobs: copies.
-/
import Derived.Test.YtglilpigoocgeaaGreatDoorFA
import Derived.Test.YtglilpigoocgeaaGreatDoorN
namespace Go.Proofs.YtglilpigoocgeaaGreatDoor.V
open Go
set_option linter.unusedVariables false
set_option linter.unusedSimpArgs false
def n_spec_l7Copy (a0 : List Record) : List Record := a0
set_option maxHeartbeats 4000000 in
set_option maxRecDepth 20000 in
theorem tr_n_spec_l7Copy (a0 : List Record) (h0 : fitL Record.Fit a0) : Tr Tryz.prog 75 [.ro ⟨false, [.sl 6 (a0.map Record.cells)]⟩] [⟨false, [.sl 6 (((n_spec_l7Copy a0)).map Record.cells)]⟩] := by
  obtain ⟨r, hr⟩ : ∃ r, n_spec_l7Copy a0 = r := ⟨_, rfl⟩
  rw [hr]
  rw [n_spec_l7Copy] at hr
  refine tr_go tabOk Tryz.func75 rfl rfl rfl rfl rfl (ov := [(0, .t ⟨false, [.d (.sl 6 (a0.map Record.cells))]⟩)]) (hv := []) rfl rfl ?_
  refine v_seq ?_
  refine v_reg ?_
  refine sy _ (zas rfl (en 6)) rfl rfl ?_
  refine s_end ?_
  refine v_seq ?_
  refine v_reg ?_
  refine sbk 0 (.t ⟨false, [.sr 0 1 0 ((([] : List Record).map Record.cells).length) ((([] : List Record).map Record.cells).length)]⟩) (.row 6 (([] : List Record).map Record.cells) true 1 0) (zbu tabOk rfl rfl rfl rfl .nil rfl rfl) rfl rfl ?_
  refine sy _ (zmv rfl (e rfl rfl)) rfl rfl ?_
  have hB2 := (h0).1
  refine sa 0 (.t ⟨false, [.sr 0 2 0 (((a0).map Record.cells).length) (((a0).map Record.cells).length)]⟩) (.row 6 ((a0).map Record.cells) true 2 1) (zap tabOk rfl rfl rfl rfl (e rfl rfl) rfl rfl (e rfl rfl) (.d (flat_Record _)) (ap_big (by simp only [List.length_map, List.length_cons, List.length_nil]; omega) rfl) rfl (by simp only [List.length_map, List.length_append, List.length_cons, List.length_nil]; omega)) rfl rfl ?_
  refine sy _ (zas rfl (e rfl rfl)) rfl rfl ?_
  refine s_end ?_
  refine v_ret ?_
  subst hr
  exact post_ret (rv (.tmp (eg rfl rfl)) rfl (.sr rfl le_all take_all .nil) rfl .nil) (.ro .nil) rfl
set_option maxHeartbeats 4000000 in
theorem fitx_n_spec_l7Copy (a0 : List Record) (h0 : fitL Record.Fit a0) : fitL Record.Fit (n_spec_l7Copy a0) := by
  obtain ⟨r, hr⟩ : ∃ r, n_spec_l7Copy a0 = r := ⟨_, rfl⟩
  rw [hr]
  rw [n_spec_l7Copy] at hr
  have hB2 : (a0).length ≤ _ := (h0).1
  subst hr
  exact h0
end Go.Proofs.YtglilpigoocgeaaGreatDoor.V
