/-
  Numbers, labels.
-/
import Derived.Test.YtglilpigoocgeaaN
namespace Go.Proofs.Ytglilpigoocgeaa.V
open Go
set_option linter.unusedVariables false
set_option linter.unusedSimpArgs false
def n_spec_l1In (a0 : Int) (a1 : Int) (a2 : Int) : Bool := cond (decide ((a1) ≤ (a0))) (decide ((a0) ≤ (a2))) (false)
set_option maxHeartbeats 4000000 in
set_option maxRecDepth 20000 in
theorem tr_n_spec_l1In (a0 : Int) (a1 : Int) (a2 : Int) : Tr Try.prog 69 [.ro ⟨false, [dI (a0)]⟩, .ro ⟨false, [dI (a1)]⟩, .ro ⟨false, [dI (a2)]⟩] [⟨false, [dB ((n_spec_l1In a0 a1 a2))]⟩] := by
  obtain ⟨r, hr⟩ : ∃ r, n_spec_l1In a0 a1 a2 = r := ⟨_, rfl⟩
  rw [hr]
  rw [n_spec_l1In] at hr
  refine tr_go tabOk Try.func69 rfl rfl rfl rfl rfl (ov := [(0, .t ⟨false, [.d (dI (a0))]⟩), (1, .t ⟨false, [.d (dI (a1))]⟩), (2, .t ⟨false, [.d (dI (a2))]⟩)]) (hv := []) rfl rfl ?_
  refine v_seq ?_
  refine v_reg ?_
  refine sy _ (zas rfl (ec rfl)) rfl rfl ?_
  refine s_end ?_
  refine v_seq ?_
  refine v_reg ?_
  refine sy _ (zmv rfl (e rfl rfl)) rfl rfl ?_
  refine sy _ (zmv rfl (e rfl rfl)) rfl rfl ?_
  refine sy (.t ⟨false, [.d (dB (decide ((a1) ≤ (a0))))]⟩) (y_bin rfl (e rfl rfl) (e rfl rfl) (fun _ => b_geq) rfl) rfl rfl ?_
  refine sy _ (zmv rfl (e rfl rfl)) rfl rfl ?_
  rcases Bool.eq_false_or_eq_true (decide ((a1) ≤ (a0))) with hg1 | hg1
  · replace hr := bf_t hg1 hr
    have hg1p := dec_t hg1
    refine gr rfl rfl rfl (eg rfl rfl) hg1 ?_
    refine sy _ (zmv rfl (e rfl rfl)) rfl rfl ?_
    refine gr rfl rfl rfl (eg rfl rfl) hg1 ?_
    refine sy _ (zmv rfl (e rfl rfl)) rfl rfl ?_
    refine gr rfl rfl rfl (eg rfl rfl) hg1 ?_
    refine sy (.t ⟨false, [.d (dB (decide ((a0) ≤ (a2))))]⟩) (y_bin rfl (e rfl rfl) (e rfl rfl) (fun _ => b_leq) rfl) rfl rfl ?_
    refine sy (.t ⟨false, [.d (dB (decide ((a0) ≤ (a2))))]⟩) (zpt rfl (e rfl rfl) hg1 (e rfl rfl)) rfl rfl ?_
    refine sy _ (zas rfl (e rfl rfl)) rfl rfl ?_
    refine s_end ?_
    refine v_ret ?_
    subst hr
    exact post_ret (rv (.tmp (eg rfl rfl)) rfl (.lf .nil) rfl .nil) (.ro (.ro (.ro .nil))) rfl
  replace hr := bf_f hg1 hr
  have hg1p := dec_f hg1
  refine gs rfl rfl rfl (eg rfl rfl) hg1 rfl ?_
  refine gs rfl rfl rfl (eg rfl rfl) hg1 rfl ?_
  refine gs rfl rfl rfl (eg rfl rfl) hg1 rfl ?_
  refine sy (.t ⟨false, [.d (dB (false))]⟩) (zpf rfl (e rfl rfl) hg1 (ec rfl)) rfl rfl ?_
  refine sy _ (zas rfl (e rfl rfl)) rfl rfl ?_
  refine s_end ?_
  refine v_ret ?_
  subst hr
  exact post_ret (rv (.tmp (eg rfl rfl)) rfl (.lf .nil) rfl .nil) (.ro (.ro (.ro .nil))) rfl
def n_impl_isFrom (a0 : Int) (a1 : Int) (a2 : Int) : Bool := cond (decide ((a1) ≤ (a0))) (decide ((a0) ≤ (a2))) (false)
set_option maxHeartbeats 4000000 in
set_option maxRecDepth 20000 in
theorem tr_n_impl_isFrom (a0 : Int) (a1 : Int) (a2 : Int) : Tr Try.prog 70 [.ro ⟨false, [dI (a0)]⟩, .ro ⟨false, [dI (a1)]⟩, .ro ⟨false, [dI (a2)]⟩] [⟨false, [dB ((n_impl_isFrom a0 a1 a2))]⟩] := by
  obtain ⟨r, hr⟩ : ∃ r, n_impl_isFrom a0 a1 a2 = r := ⟨_, rfl⟩
  rw [hr]
  rw [n_impl_isFrom] at hr
  refine tr_go tabOk Try.func70 rfl rfl rfl rfl rfl (ov := [(0, .t ⟨false, [.d (dI (a0))]⟩), (1, .t ⟨false, [.d (dI (a1))]⟩), (2, .t ⟨false, [.d (dI (a2))]⟩)]) (hv := []) rfl rfl ?_
  refine v_seq ?_
  refine v_reg ?_
  refine sy _ (zas rfl (ec rfl)) rfl rfl ?_
  refine s_end ?_
  refine v_seq ?_
  refine v_reg ?_
  refine sy _ (zmv rfl (e rfl rfl)) rfl rfl ?_
  refine sy _ (zmv rfl (e rfl rfl)) rfl rfl ?_
  refine sy (.t ⟨false, [.d (dB (decide ((a1) ≤ (a0))))]⟩) (y_bin rfl (e rfl rfl) (e rfl rfl) (fun _ => b_geq) rfl) rfl rfl ?_
  refine sy _ (zmv rfl (e rfl rfl)) rfl rfl ?_
  rcases Bool.eq_false_or_eq_true (decide ((a1) ≤ (a0))) with hg1 | hg1
  · replace hr := bf_t hg1 hr
    have hg1p := dec_t hg1
    refine gr rfl rfl rfl (eg rfl rfl) hg1 ?_
    refine sy _ (zmv rfl (e rfl rfl)) rfl rfl ?_
    refine gr rfl rfl rfl (eg rfl rfl) hg1 ?_
    refine sy _ (zmv rfl (e rfl rfl)) rfl rfl ?_
    refine gr rfl rfl rfl (eg rfl rfl) hg1 ?_
    refine sy (.t ⟨false, [.d (dB (decide ((a0) ≤ (a2))))]⟩) (y_bin rfl (e rfl rfl) (e rfl rfl) (fun _ => b_leq) rfl) rfl rfl ?_
    refine sy (.t ⟨false, [.d (dB (decide ((a0) ≤ (a2))))]⟩) (zpt rfl (e rfl rfl) hg1 (e rfl rfl)) rfl rfl ?_
    refine sy _ (zas rfl (e rfl rfl)) rfl rfl ?_
    refine s_end ?_
    refine v_ret ?_
    subst hr
    exact post_ret (rv (.tmp (eg rfl rfl)) rfl (.lf .nil) rfl .nil) (.ro (.ro (.ro .nil))) rfl
  replace hr := bf_f hg1 hr
  have hg1p := dec_f hg1
  refine gs rfl rfl rfl (eg rfl rfl) hg1 rfl ?_
  refine gs rfl rfl rfl (eg rfl rfl) hg1 rfl ?_
  refine gs rfl rfl rfl (eg rfl rfl) hg1 rfl ?_
  refine sy (.t ⟨false, [.d (dB (false))]⟩) (zpf rfl (e rfl rfl) hg1 (ec rfl)) rfl rfl ?_
  refine sy _ (zas rfl (e rfl rfl)) rfl rfl ?_
  refine s_end ?_
  refine v_ret ?_
  subst hr
  exact post_ret (rv (.tmp (eg rfl rfl)) rfl (.lf .nil) rfl .nil) (.ro (.ro (.ro .nil))) rfl
def n_impl_isFour (a0 : Int) : Bool := cond (decide ((0) ≤ (a0))) (decide ((a0) ≤ (2147483647))) (false)
set_option maxHeartbeats 4000000 in
set_option maxRecDepth 20000 in
theorem tr_n_impl_isFour (a0 : Int) : Tr Try.prog 73 [.ro ⟨false, [dI (a0)]⟩] [⟨false, [dB ((n_impl_isFour a0))]⟩] := by
  obtain ⟨r, hr⟩ : ∃ r, n_impl_isFour a0 = r := ⟨_, rfl⟩
  rw [hr]
  rw [n_impl_isFour] at hr
  refine tr_go tabOk Try.func73 rfl rfl rfl rfl rfl (ov := [(0, .t ⟨false, [.d (dI (a0))]⟩)]) (hv := []) rfl rfl ?_
  refine v_seq ?_
  refine v_reg ?_
  refine sy _ (zas rfl (ec rfl)) rfl rfl ?_
  refine s_end ?_
  refine v_seq ?_
  refine v_reg ?_
  refine sy _ (zmv rfl (e rfl rfl)) rfl rfl ?_
  refine sy (.t ⟨false, [.d (dB (decide ((0) ≤ (a0))))]⟩) (y_bin rfl (e rfl rfl) (ec rfl) (fun _ => b_geq) rfl) rfl rfl ?_
  refine sy _ (zmv rfl (e rfl rfl)) rfl rfl ?_
  rcases Bool.eq_false_or_eq_true (decide ((0) ≤ (a0))) with hg1 | hg1
  · replace hr := bf_t hg1 hr
    have hg1p := dec_t hg1
    refine gr rfl rfl rfl (eg rfl rfl) hg1 ?_
    refine sy _ (zmv rfl (e rfl rfl)) rfl rfl ?_
    refine gr rfl rfl rfl (eg rfl rfl) hg1 ?_
    refine sy (.t ⟨false, [.d (dB (decide ((a0) ≤ (2147483647))))]⟩) (y_bin rfl (e rfl rfl) (ec rfl) (fun _ => b_leq) rfl) rfl rfl ?_
    refine sy (.t ⟨false, [.d (dB (decide ((a0) ≤ (2147483647))))]⟩) (zpt rfl (e rfl rfl) hg1 (e rfl rfl)) rfl rfl ?_
    refine sy _ (zas rfl (e rfl rfl)) rfl rfl ?_
    refine s_end ?_
    refine v_ret ?_
    subst hr
    exact post_ret (rv (.tmp (eg rfl rfl)) rfl (.lf .nil) rfl .nil) (.ro .nil) rfl
  replace hr := bf_f hg1 hr
  have hg1p := dec_f hg1
  refine gs rfl rfl rfl (eg rfl rfl) hg1 rfl ?_
  refine gs rfl rfl rfl (eg rfl rfl) hg1 rfl ?_
  refine sy (.t ⟨false, [.d (dB (false))]⟩) (zpf rfl (e rfl rfl) hg1 (ec rfl)) rfl rfl ?_
  refine sy _ (zas rfl (e rfl rfl)) rfl rfl ?_
  refine s_end ?_
  refine v_ret ?_
  subst hr
  exact post_ret (rv (.tmp (eg rfl rfl)) rfl (.lf .nil) rfl .nil) (.ro .nil) rfl
end Go.Proofs.Ytglilpigoocgeaa.V
