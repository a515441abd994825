/-
  Numbers, labels.
-/
import Derived.Test.YtglilpigoocgeaaGreatDoorFA
import Derived.Test.YtglilpigoocgeaaGreatDoorVE
import Derived.Test.YtglilpigoocgeaaGreatDoorN
import Derived.Test.YtglilpigoocgeaaGreatDoorFS
namespace Go.Proofs.YtglilpigoocgeaaGreatDoor.V
open Go
set_option linter.unusedVariables false
set_option linter.unusedSimpArgs false
def n_spec_LabelsL1 (a0 : ByteArray) : Nat → (List ByteArray) → Nat → Nat → (List ByteArray)
  | 0, _, _, _ => default
  | n + 1, l0, z4, i => cond (decide (((i : Int)) ≤ ((a0.size : Int)))) (cond (decide ((a0) ≠ ((⟨#[]⟩ : ByteArray)))) (cond (decide (((i : Int)) = ((a0.size : Int)))) (bindv ((a0).extract z4 i) (fun v1 => n_spec_LabelsL1 a0 n (l0 ++ ([v1] : List ByteArray)) (i + 1) (i + 1))) (cond (decide ((bt a0 i) = (46))) (bindv ((a0).extract z4 i) (fun v2 => n_spec_LabelsL1 a0 n (l0 ++ ([v2] : List ByteArray)) (i + 1) (i + 1))) (n_spec_LabelsL1 a0 n l0 z4 (i + 1)))) (l0)) (l0)
def n_spec_Labels (a0 : ByteArray) : List ByteArray := n_spec_LabelsL1 a0 (a0.size + 1 + 1) (([] : List ByteArray)) 0 0
set_option maxHeartbeats 4000000 in
set_option maxRecDepth 20000 in
theorem tr_n_spec_Labels (a0 : ByteArray) (h0 : fitS a0) : Tr Tryz.prog 55 [.ro ⟨false, [dS (a0)]⟩] [⟨false, [.sl 1 (((n_spec_Labels a0)).map encS)]⟩] := by
  obtain ⟨r, hr⟩ : ∃ r, n_spec_Labels a0 = r := ⟨_, rfl⟩
  rw [hr]
  rw [n_spec_Labels] at hr
  refine tr_go tabOk Tryz.func55 rfl rfl rfl rfl rfl (ov := [(0, .t ⟨false, [.d (dS (a0))]⟩)]) (hv := []) rfl rfl ?_
  refine v_seq ?_
  refine v_reg ?_
  refine sy _ (zas rfl (en 1)) rfl rfl ?_
  refine s_end ?_
  refine v_seq ?_
  refine v_reg ?_
  refine sbk 0 (.t ⟨false, [.sr 0 1 0 ((([] : List ByteArray).map encS).length) ((([] : List ByteArray).map encS).length)]⟩) (.row 1 (([] : List ByteArray).map encS) true 1 0) (zbu tabOk rfl rfl rfl rfl .nil rfl rfl) rfl rfl ?_
  refine sy _ (zas rfl (e rfl rfl)) rfl rfl ?_
  refine s_end ?_
  refine v_seq ?_
  refine v_reg ?_
  refine sy _ (zas rfl (ec rfl)) rfl rfl ?_
  refine s_end ?_
  refine v_seq ?_
  refine v_seq ?_
  refine v_reg ?_
  refine sy _ (zas rfl (ec rfl)) rfl rfl ?_
  refine s_end ?_
  refine v_block ?_
  refine v_lp (fun (q : Nat × List ByteArray × Nat × Nat × Nat × Nat) => [(0, .t ⟨false, [.d (dS (a0))]⟩), (3, .t ⟨false, [.sr 0 q.2.2.2.2.1 0 (((q.2.1).map encS).length) (((q.2.1).map encS).length)]⟩), (4, .t ⟨false, [.d (dI (q.2.2.1 : Int))]⟩), (5, .t ⟨false, [.d (dI (q.2.2.2.1 : Int))]⟩)]) (fun q => [(0, .row 1 ((q.2.1).map encS) true q.2.2.2.2.1 q.2.2.2.2.2)]) (fun q => n_spec_LabelsL1 a0 q.1 q.2.1 q.2.2.1 q.2.2.2.1 = r ∧ (q.2.2.2.1 ≤ a0.size + 1) ∧ (q.2.2.2.1 + q.1 = a0.size + 1 + 1) ∧ (q.2.1.length ≤ q.2.2.2.1) ∧ (q.2.2.1 ≤ q.2.2.2.1) ∧ (fitL fitS q.2.1)) (fun q => q.1) (a0.size + 1 + 1, (([] : List ByteArray) : List ByteArray), (0 : Nat), (0 : Nat), 1, 0) ⟨hr, by (try dsimp only); (try simp only [List.length_nil, List.length_cons, List.length_replicate]); first | done | omega | exact Nat.zero_le _, by (try dsimp only); (try simp only [List.length_nil, List.length_cons, List.length_replicate]); first | done | omega | exact Nat.zero_le _, by (try dsimp only); (try simp only [List.length_nil, List.length_cons, List.length_replicate]); first | done | omega | exact Nat.zero_le _, by (try dsimp only); (try simp only [List.length_nil, List.length_cons, List.length_replicate]); first | done | omega | exact Nat.zero_le _, fitL_nil⟩ ⟨rfl, rfl, rfl, rfl, trivial⟩ ⟨rfl, trivial⟩ rfl (fun q hq => ?_)
  obtain ⟨n, l0, z4, i, g0, w0⟩ := q
  obtain ⟨hr, hi1x0, hi1x1, hi1x2, hi1x3, hi1x4⟩ := hq
  dsimp only at hr hi1x0 hi1x1 hi1x2 hi1x3 hi1x4
  show VWp _ _ _ (mk [(0, .t ⟨false, [.d (dS (a0))]⟩), (3, .t ⟨false, [.sr 0 g0 0 (((l0).map encS).length) (((l0).map encS).length)]⟩), (4, .t ⟨false, [.d (dI (z4 : Int))]⟩), (5, .t ⟨false, [.d (dI (i : Int))]⟩)] _ [(0, .row 1 ((l0).map encS) true g0 w0)])
  rcases n with _ | n
  · exfalso; omega
  rw [n_spec_LabelsL1] at hr
  refine v_seq ?_
  refine v_seq ?_
  refine v_reg ?_
  refine sy _ (zmv rfl (e rfl rfl)) rfl rfl ?_
  refine sy _ (zmv rfl (e rfl rfl)) rfl rfl ?_
  have hB1 : (a0).size ≤ 2097152 := h0
  refine sy (.t ⟨false, [.d (dI (a0.size : Int))]⟩) (zls tabOk rfl rfl (e rfl rfl)) rfl rfl ?_
  refine sy (.t ⟨false, [.d (dB (decide (((i : Int)) ≤ ((a0.size : Int)))))]⟩) (y_bin rfl (e rfl rfl) (e rfl rfl) (fun _ => b_leq) rfl) rfl rfl ?_
  refine sy _ (zmv rfl (e rfl rfl)) rfl rfl ?_
  rcases Bool.eq_false_or_eq_true (decide (((i : Int)) ≤ ((a0.size : Int)))) with hg1 | hg1
  · replace hr := bf_t hg1 hr
    have hg1p := dec_t hg1
    refine gr rfl rfl rfl (eg rfl rfl) hg1 ?_
    refine sy _ (zmv rfl (e rfl rfl)) rfl rfl ?_
    refine gr rfl rfl rfl (eg rfl rfl) hg1 ?_
    refine sy (.t ⟨false, [.d (dB (decide ((a0) ≠ ((⟨#[]⟩ : ByteArray)))))]⟩) (y_bin rfl (e rfl rfl) (ec rfl) (fun _ => b_sneq) rfl) rfl rfl ?_
    refine sy (.t ⟨false, [.d (dB (decide ((a0) ≠ ((⟨#[]⟩ : ByteArray)))))]⟩) (zpt rfl (e rfl rfl) hg1 (e rfl rfl)) rfl rfl ?_
    refine s_end ?_
    refine v_cond (e rfl rfl) (fun hb2 => ?_) fun hb2 => ?_
    · replace hr := bf_t hb2 hr
      have hb2p := dec_t hb2
      refine v_skip ?_
      refine v_seq ?_
      refine v_block ?_
      refine v_seq ?_
      refine v_reg ?_
      refine sy _ (zmv rfl (e rfl rfl)) rfl rfl ?_
      refine sy _ (zmv rfl (e rfl rfl)) rfl rfl ?_
      refine sy (.t ⟨false, [.d (dI (a0.size : Int))]⟩) (zls tabOk rfl rfl (e rfl rfl)) rfl rfl ?_
      refine sy (.t ⟨false, [.d (dB (decide (((i : Int)) = ((a0.size : Int)))))]⟩) (y_bin rfl (e rfl rfl) (e rfl rfl) (fun _ => b_eql) rfl) rfl rfl ?_
      refine sy _ (zmv rfl (e rfl rfl)) rfl rfl ?_
      rcases Bool.eq_false_or_eq_true (decide (((i : Int)) = ((a0.size : Int)))) with hg3 | hg3
      · replace hr := bf_t hg3 hr
        have hg3p := dec_t hg3
        refine gs rfl rfl rfl (eg rfl rfl) hg3 rfl ?_
        refine gs rfl rfl rfl (eg rfl rfl) hg3 rfl ?_
        refine gs rfl rfl rfl (eg rfl rfl) hg3 rfl ?_
        refine gs rfl rfl rfl (eg rfl rfl) hg3 rfl ?_
        refine sy (.t ⟨false, [.d (dB (true))]⟩) (zpt rfl (e rfl rfl) hg3 (ec rfl)) rfl rfl ?_
        refine s_end ?_
        refine v_cT (e rfl rfl) rfl ?_
        refine v_seq ?_
        refine v_reg ?_
        refine sy _ (zmv rfl (e rfl rfl)) rfl rfl ?_
        refine sy _ (zmv rfl (e rfl rfl)) rfl rfl ?_
        refine sy _ (zmv rfl (e rfl rfl)) rfl rfl ?_
        refine sy _ (zmv rfl (e rfl rfl)) rfl rfl ?_
        obtain ⟨v1, ev1⟩ : ∃ v : ByteArray, v = (a0).extract z4 i := ⟨_, rfl⟩
        replace hr := bv_step ev1 hr
        have hl4 : z4 ≤ i := by omega
        have hl4u : i ≤ (a0).size := by omega
        have hl4z := size_ext ev1 hl4 hl4u
        have hfv1 := fit_ext ev1 h0
        refine sy (.t ⟨false, [.d (dS (v1))]⟩) (by rw [ev1]; exact zss tabOk rfl rfl (e rfl rfl) (sbs (e rfl rfl) rfl) (sbs (e rfl rfl) rfl) hl4 hl4u) rfl rfl ?_
        refine sbk 5 (.t ⟨false, [.sr 5 1 0 ((([v1] : List ByteArray).map encS).length) ((([v1] : List ByteArray).map encS).length)]⟩) (.row 1 (([v1] : List ByteArray).map encS) true 1 0) (zbu tabOk rfl rfl rfl rfl (pd0 (e rfl rfl) rfl (.lf .nil) rfl .nil) rfl rfl) rfl rfl ?_
        have hB2 := (hi1x4).1
        refine sa 0 (.t ⟨false, [.sr 0 (g0 + 1) 0 (((l0 ++ ([v1] : List ByteArray)).map encS).length) (((l0 ++ ([v1] : List ByteArray)).map encS).length)]⟩) (.row 1 ((l0 ++ ([v1] : List ByteArray)).map encS) true (g0 + 1) (w0 + 1)) (zap tabOk rfl rfl rfl rfl (e rfl rfl) rfl rfl (e rfl rfl) (.flat rfl le_all take_all (flat_S _)) (ap_big (by simp only [List.length_map, List.length_cons, List.length_nil]; omega) rfl) map_app len_app) rfl rfl ?_
        refine sy _ (zas rfl (e rfl rfl)) rfl rfl ?_
        refine s_end ?_
        refine v_reg ?_
        refine sy _ (zmv rfl (e rfl rfl)) rfl rfl ?_
        refine sy (.t ⟨false, [.d (dI (i + 1 : Int))]⟩) (y_bin rfl (e rfl rfl) (ec rfl) (fun _ => b_addn (by omega) (by omega)) rfl) rfl rfl ?_
        refine sy _ (zas rfl (e rfl rfl)) rfl rfl ?_
        refine s_end ?_
        refine blk_norm ?_
        refine v_reg ?_
        refine sy _ (zmv rfl (e rfl rfl)) rfl rfl ?_
        refine sy (.t ⟨false, [.d (dI (i + 1 : Int))]⟩) (y_bin rfl (e rfl rfl) (ec rfl) (fun _ => b_addn (by omega) (by omega)) rfl) rfl rfl ?_
        refine sy _ (zas rfl (e rfl rfl)) rfl rfl ?_
        refine s_end ?_
        exact lp_next (n, l0 ++ ([v1] : List ByteArray), i + 1, i + 1, g0 + 1, w0 + 1) ⟨hr, by (try simp only [List.length_append, List.length_cons, List.length_nil, List.length_set]); first | done | omega, by (try simp only [List.length_append, List.length_cons, List.length_nil, List.length_set]); first | done | omega, by (try simp only [List.length_append, List.length_cons, List.length_nil, List.length_set]); first | done | omega, by (try simp only [List.length_append, List.length_cons, List.length_nil, List.length_set]); first | done | omega, fitL_snoc hi1x4 (by omega) hfv1⟩ (Nat.lt_succ_self _) ⟨rfl, rfl, rfl, rfl, trivial⟩ ⟨rfl, trivial⟩ rfl
      replace hr := bf_f hg3 hr
      have hg3p := dec_f hg3
      refine gr rfl rfl rfl (eg rfl rfl) hg3 ?_
      refine sy _ (zmv rfl (e rfl rfl)) rfl rfl ?_
      refine gr rfl rfl rfl (eg rfl rfl) hg3 ?_
      refine sy _ (zmv rfl (e rfl rfl)) rfl rfl ?_
      refine gr rfl rfl rfl (eg rfl rfl) hg3 ?_
      have hy5 : i < (a0).size := by omega
      have hy5g := @bt_ge a0 i; have hy5l := @bt_lt a0 i
      refine sy (.t ⟨false, [.d (.lf (.int .u8 (bt a0 i)))]⟩) (zby tabOk rfl rfl (e rfl rfl) (e rfl rfl) rfl hy5) rfl rfl ?_
      refine gr rfl rfl rfl (eg rfl rfl) hg3 ?_
      refine sy (.t ⟨false, [.d (dB (decide ((bt a0 i) = (46))))]⟩) (y_bin rfl (e rfl rfl) (ec rfl) (fun _ => b_eql) rfl) rfl rfl ?_
      refine sy (.t ⟨false, [.d (dB (decide ((bt a0 i) = (46))))]⟩) (zpf rfl (e rfl rfl) hg3 (e rfl rfl)) rfl rfl ?_
      refine s_end ?_
      refine v_cond (e rfl rfl) (fun hb6 => ?_) fun hb6 => ?_
      · replace hr := bf_t hb6 hr
        have hb6p := dec_t hb6
        refine v_seq ?_
        refine v_reg ?_
        refine sy _ (zmv rfl (e rfl rfl)) rfl rfl ?_
        refine sy _ (zmv rfl (e rfl rfl)) rfl rfl ?_
        refine sy _ (zmv rfl (e rfl rfl)) rfl rfl ?_
        refine sy _ (zmv rfl (e rfl rfl)) rfl rfl ?_
        obtain ⟨v2, ev2⟩ : ∃ v : ByteArray, v = (a0).extract z4 i := ⟨_, rfl⟩
        replace hr := bv_step ev2 hr
        have hl7 : z4 ≤ i := by omega
        have hl7u : i ≤ (a0).size := by omega
        have hl7z := size_ext ev2 hl7 hl7u
        have hfv2 := fit_ext ev2 h0
        refine sy (.t ⟨false, [.d (dS (v2))]⟩) (by rw [ev2]; exact zss tabOk rfl rfl (e rfl rfl) (sbs (e rfl rfl) rfl) (sbs (e rfl rfl) rfl) hl7 hl7u) rfl rfl ?_
        refine sbk 6 (.t ⟨false, [.sr 6 1 0 ((([v2] : List ByteArray).map encS).length) ((([v2] : List ByteArray).map encS).length)]⟩) (.row 1 (([v2] : List ByteArray).map encS) true 1 0) (zbu tabOk rfl rfl rfl rfl (pd0 (e rfl rfl) rfl (.lf .nil) rfl .nil) rfl rfl) rfl rfl ?_
        have hB2 := (hi1x4).1
        refine sa 0 (.t ⟨false, [.sr 0 (g0 + 1) 0 (((l0 ++ ([v2] : List ByteArray)).map encS).length) (((l0 ++ ([v2] : List ByteArray)).map encS).length)]⟩) (.row 1 ((l0 ++ ([v2] : List ByteArray)).map encS) true (g0 + 1) (w0 + 1)) (zap tabOk rfl rfl rfl rfl (e rfl rfl) rfl rfl (e rfl rfl) (.flat rfl le_all take_all (flat_S _)) (ap_big (by simp only [List.length_map, List.length_cons, List.length_nil]; omega) rfl) map_app len_app) rfl rfl ?_
        refine sy _ (zas rfl (e rfl rfl)) rfl rfl ?_
        refine s_end ?_
        refine v_reg ?_
        refine sy _ (zmv rfl (e rfl rfl)) rfl rfl ?_
        refine sy (.t ⟨false, [.d (dI (i + 1 : Int))]⟩) (y_bin rfl (e rfl rfl) (ec rfl) (fun _ => b_addn (by omega) (by omega)) rfl) rfl rfl ?_
        refine sy _ (zas rfl (e rfl rfl)) rfl rfl ?_
        refine s_end ?_
        refine blk_norm ?_
        refine v_reg ?_
        refine sy _ (zmv rfl (e rfl rfl)) rfl rfl ?_
        refine sy (.t ⟨false, [.d (dI (i + 1 : Int))]⟩) (y_bin rfl (e rfl rfl) (ec rfl) (fun _ => b_addn (by omega) (by omega)) rfl) rfl rfl ?_
        refine sy _ (zas rfl (e rfl rfl)) rfl rfl ?_
        refine s_end ?_
        exact lp_next (n, l0 ++ ([v2] : List ByteArray), i + 1, i + 1, g0 + 1, w0 + 1) ⟨hr, by (try simp only [List.length_append, List.length_cons, List.length_nil, List.length_set]); first | done | omega, by (try simp only [List.length_append, List.length_cons, List.length_nil, List.length_set]); first | done | omega, by (try simp only [List.length_append, List.length_cons, List.length_nil, List.length_set]); first | done | omega, by (try simp only [List.length_append, List.length_cons, List.length_nil, List.length_set]); first | done | omega, fitL_snoc hi1x4 (by omega) hfv2⟩ (Nat.lt_succ_self _) ⟨rfl, rfl, rfl, rfl, trivial⟩ ⟨rfl, trivial⟩ rfl
      replace hr := bf_f hb6 hr
      have hb6p := dec_f hb6
      refine v_skip ?_
      refine blk_norm ?_
      refine v_reg ?_
      refine sy _ (zmv rfl (e rfl rfl)) rfl rfl ?_
      refine sy (.t ⟨false, [.d (dI (i + 1 : Int))]⟩) (y_bin rfl (e rfl rfl) (ec rfl) (fun _ => b_addn (by omega) (by omega)) rfl) rfl rfl ?_
      refine sy _ (zas rfl (e rfl rfl)) rfl rfl ?_
      refine s_end ?_
      exact lp_next (n, l0, z4, i + 1, g0, w0) ⟨hr, by (try simp only [List.length_append, List.length_cons, List.length_nil, List.length_set]); first | done | omega, by (try simp only [List.length_append, List.length_cons, List.length_nil, List.length_set]); first | done | omega, by (try simp only [List.length_append, List.length_cons, List.length_nil, List.length_set]); first | done | omega, by (try simp only [List.length_append, List.length_cons, List.length_nil, List.length_set]); first | done | omega, hi1x4⟩ (Nat.lt_succ_self _) ⟨rfl, rfl, rfl, rfl, trivial⟩ ⟨rfl, trivial⟩ rfl
    replace hr := bf_f hb2 hr
    have hb2p := dec_f hb2
    refine v_exit ?_
    refine then_exit ?_
    refine loop_exit ?_
    refine blk_hit ?_
    refine v_seq ?_
    refine v_reg ?_
    refine sy _ (zmv rfl (e rfl rfl)) rfl rfl ?_
    refine sy _ (zas rfl (e rfl rfl)) rfl rfl ?_
    refine s_end ?_
    refine v_ret ?_
    subst hr
    exact post_ret (rv (.tmp (eg rfl rfl)) rfl (.sr rfl le_all take_all .nil) rfl .nil) (.ro .nil) rfl
  replace hr := bf_f hg1 hr
  have hg1p := dec_f hg1
  refine gs rfl rfl rfl (eg rfl rfl) hg1 rfl ?_
  refine gs rfl rfl rfl (eg rfl rfl) hg1 rfl ?_
  refine sy (.t ⟨false, [.d (dB (false))]⟩) (zpf rfl (e rfl rfl) hg1 (ec rfl)) rfl rfl ?_
  refine s_end ?_
  refine v_cF (e rfl rfl) rfl ?_
  refine v_exit ?_
  refine then_exit ?_
  refine loop_exit ?_
  refine blk_hit ?_
  refine v_seq ?_
  refine v_reg ?_
  refine sy _ (zmv rfl (e rfl rfl)) rfl rfl ?_
  refine sy _ (zas rfl (e rfl rfl)) rfl rfl ?_
  refine s_end ?_
  refine v_ret ?_
  subst hr
  exact post_ret (rv (.tmp (eg rfl rfl)) rfl (.sr rfl le_all take_all .nil) rfl .nil) (.ro .nil) rfl
set_option maxHeartbeats 4000000 in
theorem fitx_n_spec_Labels (a0 : ByteArray) (h0 : fitS a0) : fitL fitS (n_spec_Labels a0) := by
  obtain ⟨r, hr⟩ : ∃ r, n_spec_Labels a0 = r := ⟨_, rfl⟩
  rw [hr]
  rw [n_spec_Labels] at hr
  refine fx_lp (fun (q : Nat × List ByteArray × Nat × Nat × Nat × Nat) => n_spec_LabelsL1 a0 q.1 q.2.1 q.2.2.1 q.2.2.2.1 = r ∧ (q.2.2.2.1 ≤ a0.size + 1) ∧ (q.2.2.2.1 + q.1 = a0.size + 1 + 1) ∧ (q.2.1.length ≤ q.2.2.2.1) ∧ (q.2.2.1 ≤ q.2.2.2.1) ∧ (fitL fitS q.2.1)) (fun q => q.1) (a0.size + 1 + 1, (([] : List ByteArray) : List ByteArray), (0 : Nat), (0 : Nat), 1, 0) ⟨hr, by (try dsimp only); (try simp only [List.length_nil, List.length_cons, List.length_replicate]); first | done | omega | exact Nat.zero_le _, by (try dsimp only); (try simp only [List.length_nil, List.length_cons, List.length_replicate]); first | done | omega | exact Nat.zero_le _, by (try dsimp only); (try simp only [List.length_nil, List.length_cons, List.length_replicate]); first | done | omega | exact Nat.zero_le _, by (try dsimp only); (try simp only [List.length_nil, List.length_cons, List.length_replicate]); first | done | omega | exact Nat.zero_le _, fitL_nil⟩ (fun q hq hn1 => ?_)
  obtain ⟨n, l0, z4, i, g0, w0⟩ := q
  obtain ⟨hr, hi1x0, hi1x1, hi1x2, hi1x3, hi1x4⟩ := hq
  dsimp only at hr hi1x0 hi1x1 hi1x2 hi1x3 hi1x4
  rcases n with _ | n
  · exfalso; omega
  rw [n_spec_LabelsL1] at hr
  have hB1 : (a0).size ≤ 2097152 := h0
  rcases Bool.eq_false_or_eq_true (decide (((i : Int)) ≤ ((a0.size : Int)))) with hg1 | hg1
  · replace hr := bf_t hg1 hr
    have hg1p := dec_t hg1
    rcases Bool.eq_false_or_eq_true (decide ((a0) ≠ ((⟨#[]⟩ : ByteArray)))) with hb2 | hb2
    · replace hr := bf_t hb2 hr
      have hb2p := dec_t hb2
      rcases Bool.eq_false_or_eq_true (decide (((i : Int)) = ((a0.size : Int)))) with hg3 | hg3
      · replace hr := bf_t hg3 hr
        have hg3p := dec_t hg3
        obtain ⟨v1, ev1⟩ : ∃ v : ByteArray, v = (a0).extract z4 i := ⟨_, rfl⟩
        replace hr := bv_step ev1 hr
        have hl4 : z4 ≤ i := by omega
        have hl4u : i ≤ (a0).size := by omega
        have hl4z := size_ext ev1 hl4 hl4u
        have hfv1 := fit_ext ev1 h0
        have hB2 : (l0).length ≤ _ := (hi1x4).1
        exact hn1 (n, l0 ++ ([v1] : List ByteArray), i + 1, i + 1, g0 + 1, w0 + 1) (Nat.lt_succ_self _) ⟨hr, by (try simp only [List.length_append, List.length_cons, List.length_nil, List.length_set]); first | done | omega, by (try simp only [List.length_append, List.length_cons, List.length_nil, List.length_set]); first | done | omega, by (try simp only [List.length_append, List.length_cons, List.length_nil, List.length_set]); first | done | omega, by (try simp only [List.length_append, List.length_cons, List.length_nil, List.length_set]); first | done | omega, fitL_snoc hi1x4 (by omega) hfv1⟩
      replace hr := bf_f hg3 hr
      have hg3p := dec_f hg3
      have hy5 : i < (a0).size := by omega
      have hy5g := @bt_ge a0 i; have hy5l := @bt_lt a0 i
      rcases Bool.eq_false_or_eq_true (decide ((bt a0 i) = (46))) with hb6 | hb6
      · replace hr := bf_t hb6 hr
        have hb6p := dec_t hb6
        obtain ⟨v2, ev2⟩ : ∃ v : ByteArray, v = (a0).extract z4 i := ⟨_, rfl⟩
        replace hr := bv_step ev2 hr
        have hl7 : z4 ≤ i := by omega
        have hl7u : i ≤ (a0).size := by omega
        have hl7z := size_ext ev2 hl7 hl7u
        have hfv2 := fit_ext ev2 h0
        have hB2 : (l0).length ≤ _ := (hi1x4).1
        exact hn1 (n, l0 ++ ([v2] : List ByteArray), i + 1, i + 1, g0 + 1, w0 + 1) (Nat.lt_succ_self _) ⟨hr, by (try simp only [List.length_append, List.length_cons, List.length_nil, List.length_set]); first | done | omega, by (try simp only [List.length_append, List.length_cons, List.length_nil, List.length_set]); first | done | omega, by (try simp only [List.length_append, List.length_cons, List.length_nil, List.length_set]); first | done | omega, by (try simp only [List.length_append, List.length_cons, List.length_nil, List.length_set]); first | done | omega, fitL_snoc hi1x4 (by omega) hfv2⟩
      replace hr := bf_f hb6 hr
      have hb6p := dec_f hb6
      exact hn1 (n, l0, z4, i + 1, g0, w0) (Nat.lt_succ_self _) ⟨hr, by (try simp only [List.length_append, List.length_cons, List.length_nil, List.length_set]); first | done | omega, by (try simp only [List.length_append, List.length_cons, List.length_nil, List.length_set]); first | done | omega, by (try simp only [List.length_append, List.length_cons, List.length_nil, List.length_set]); first | done | omega, by (try simp only [List.length_append, List.length_cons, List.length_nil, List.length_set]); first | done | omega, hi1x4⟩
    replace hr := bf_f hb2 hr
    have hb2p := dec_f hb2
    subst hr
    exact hi1x4
  replace hr := bf_f hg1 hr
  have hg1p := dec_f hg1
  subst hr
  exact hi1x4
def n_impl_Labels (a0 : ByteArray) : List ByteArray := cond (decide ((a0) = ((⟨#[]⟩ : ByteArray)))) ([]) (bindv (n_strings_Split a0) (fun v1 => v1))
set_option maxHeartbeats 4000000 in
set_option maxRecDepth 20000 in
theorem tr_n_impl_Labels (a0 : ByteArray) (h0 : fitS a0) : Tr Tryz.prog 64 [.ro ⟨false, [dS (a0)]⟩] [⟨false, [.sl 1 (((n_impl_Labels a0)).map encS)]⟩] := by
  obtain ⟨r, hr⟩ : ∃ r, n_impl_Labels a0 = r := ⟨_, rfl⟩
  rw [hr]
  rw [n_impl_Labels] at hr
  refine tr_go tabOk Tryz.func64 rfl rfl rfl rfl rfl (ov := [(0, .t ⟨false, [.d (dS (a0))]⟩)]) (hv := []) rfl rfl ?_
  refine v_seq ?_
  refine v_reg ?_
  refine sy _ (zas rfl (en 1)) rfl rfl ?_
  refine s_end ?_
  refine v_seq ?_
  refine v_seq ?_
  refine v_reg ?_
  refine sy _ (zmv rfl (e rfl rfl)) rfl rfl ?_
  refine sy (.t ⟨false, [.d (dB (decide ((a0) = ((⟨#[]⟩ : ByteArray)))))]⟩) (y_bin rfl (e rfl rfl) (ec rfl) (fun _ => b_seql) rfl) rfl rfl ?_
  refine s_end ?_
  refine v_cond (e rfl rfl) (fun hb1 => ?_) fun hb1 => ?_
  · replace hr := bf_t hb1 hr
    have hb1p := dec_t hb1
    refine v_seq ?_
    refine v_reg ?_
    refine sy _ (zas rfl (en 1)) rfl rfl ?_
    refine s_end ?_
    refine v_ret ?_
    subst hr
    exact post_ret (rv (.tmp (eg rfl rfl)) rfl (.nl .nil) rfl .nil) (.ro .nil) rfl
  replace hr := bf_f hb1 hr
  have hb1p := dec_f hb1
  refine v_skip ?_
  refine v_seq ?_
  refine v_reg ?_
  refine sy _ (zmv rfl (e rfl rfl)) rfl rfl ?_
  obtain ⟨v1, ev1⟩ : ∃ v : List ByteArray, v = n_strings_Split a0 := ⟨_, rfl⟩
  replace hr := bv_step ev1 hr
  refine sd (.t ⟨false, [.sr 0 1 0 ((v1.map encS).length) ((v1.map encS).length)]⟩) (zcall 0 (.t ⟨false, [.sr 0 1 0 ((v1.map encS).length) ((v1.map encS).length)]⟩) [(0, .row 1 (v1.map encS) true 1 0)] rfl (by rw [ev1]; exact (tr_n_strings_Split a0 h0) : Tr Tryz.prog 77 _ [⟨false, [.sl 1 (v1.map encS)]⟩]) (ar (e rfl rfl) (.d .nil) (ar (ec rfl) (.d .nil) .nil)) rfl rfl rfl) rfl rfl rfl rfl ?_
  refine sy _ (zas rfl (e rfl rfl)) rfl rfl ?_
  refine s_end ?_
  refine v_ret ?_
  subst hr
  exact post_ret (rv (.tmp (eg rfl rfl)) rfl (.sr rfl le_all take_all .nil) rfl .nil) (.ro .nil) rfl
def splitL : List UInt8 → List (List UInt8)
  | [] => [[]]
  | c :: l => if c = 46 then [] :: splitL l else match splitL l with
    | [] => [[c]]
    | x :: r => (c :: x) :: r
theorem splitL_nodot : ∀ {a : List UInt8}, 46 ∉ a → splitL a = [a]
  | [], _ => rfl
  | c :: l, h => by
    have h1 : ¬ c = 46 := fun e => h (by simp [e])
    have h2 : 46 ∉ l := fun e => h (by simp [e])
    simp only [splitL, if_neg h1, splitL_nodot h2]
theorem splitL_dot : ∀ {a b : List UInt8}, 46 ∉ a → splitL (a ++ 46 :: b) = a :: splitL b
  | [], b, _ => by simp [splitL]
  | c :: l, b, h => by
    have h1 : ¬ c = 46 := fun e => h (by simp [e])
    have h2 : 46 ∉ l := fun e => h (by simp [e])
    simp only [List.cons_append, splitL, if_neg h1, splitL_dot h2]
theorem splitL_len : ∀ (l : List UInt8), (splitL l).length ≤ l.length + 1
  | [] => by simp [splitL]
  | c :: l => by
    have := splitL_len l
    simp only [splitL]
    split
    · simp; omega
    · split
      · simp
      · rename_i x r hx
        rw [hx] at this
        simp at this ⊢; omega
theorem splitL_mem : ∀ (l : List UInt8), ∀ x ∈ splitL l, x.length ≤ l.length
  | [], x, h => by simp [splitL] at h; simp [h]
  | c :: l, x, h => by
    have ih := splitL_mem l
    simp only [splitL] at h
    split at h
    · rcases List.mem_cons.1 h with rfl | h
      · simp
      · have := ih x h; simp; omega
    · split at h
      · simp at h; simp [h]
      · rename_i y r hy
        rw [hy] at ih
        rcases List.mem_cons.1 h with rfl | h
        · have := ih y (by simp); simp; omega
        · have := ih x (by simp [h]); simp; omega
def toBA (l : List UInt8) : ByteArray := ⟨l.toArray⟩
theorem toBA_data (s : ByteArray) : toBA s.data.toList = s := by cases s; simp [toBA]
theorem ext_ba (s : ByteArray) (l u : Nat) : s.extract l u = toBA ((s.data.toList.drop l).take (u - l)) := by
  apply ByteArray.ext
  apply Array.toList_inj.1
  simp [toBA, ByteArray.data_extract, Array.toList_extract, List.extract_eq_take_drop]
theorem bt_dot {s : ByteArray} {i : Nat} (h : i < s.size) : bt s i = 46 ↔ s.data.toList[i]? = some 46 := by
  have h' : i < s.data.size := h
  have e : s.data.toList[i]? = some (s.data[i]'h') := by simp [h']
  rw [e]
  have e2 : s.data.getD i 0 = s.data[i]'h' := by
    simp only [Array.getD]
    rw [dif_pos h']
    rfl
  simp only [bt, e2, Option.some.injEq]
  constructor
  · intro hh
    apply UInt8.toNat_inj.1
    have : ((s.data[i]'h').toNat : Int) = (46 : Nat) := hh
    exact Int.ofNat.inj this
  · intro hh; rw [hh]; rfl
def LB (s : ByteArray) : List ByteArray := if s.size = 0 then [] else (splitL s.data.toList).map toBA
theorem size_list (s : ByteArray) : s.data.toList.length = s.size := Array.length_toList
theorem empty_iff (s : ByteArray) : s = (⟨#[]⟩ : ByteArray) ↔ s.size = 0 := by
  constructor
  · rintro rfl; rfl
  · intro h
    apply ByteArray.ext
    exact Array.eq_empty_of_size_eq_zero h
theorem fit_LB (s : ByteArray) (h : fitS s) : fitL fitS (LB s) := by
  simp only [fitS] at h
  unfold LB
  split
  · exact ⟨by simp, by simp⟩
  · refine ⟨?_, fun x hx => ?_⟩
    · have := splitL_len s.data.toList
      rw [List.length_map]
      rw [size_list] at this
      omega
    · obtain ⟨l, hl, rfl⟩ := List.mem_map.1 hx
      have := splitL_mem _ l hl
      rw [size_list] at this
      simp only [fitS, toBA, ByteArray.size, List.size_toArray]
      omega
theorem LB_len (s : ByteArray) (h : fitS s) : (LB s).length ≤ 2097153 := by
  simp only [fitS] at h
  unfold LB
  split
  · simp
  · have := splitL_len s.data.toList
    rw [List.length_map]
    rw [size_list] at this
    omega
theorem drop_split {l : List UInt8} {z i : Nat} (hz : z ≤ i) (h : l[i]? = some 46) : l.drop z = (l.drop z).take (i - z) ++ 46 :: l.drop (i + 1) := by
  have hi : i < l.length := (List.getElem?_eq_some_iff.1 h).1
  have hx : l[i] = 46 := (List.getElem?_eq_some_iff.1 h).2
  conv => lhs; rw [← List.take_append_drop (i - z) (l.drop z)]
  rw [List.drop_drop, show z + (i - z) = i by omega, List.drop_eq_getElem_cons hi, hx]
theorem labels_loop (s : ByteArray) (hs : s.size ≠ 0) : ∀ (n : Nat) (l0 : List ByteArray) (z i : Nat), z ≤ i → i ≤ s.size → i + n = s.size + 2 → 46 ∉ ((s.data.toList.drop z).take (i - z)) →
    n_spec_LabelsL1 s n l0 z i = l0 ++ (splitL (s.data.toList.drop z)).map toBA
  | 0, l0, z, i, h1, h2, h3, h4 => by omega
  | n + 1, l0, z, i, h1, h2, h3, h4 => by
    have e1 : decide ((i : Int) ≤ (s.size : Int)) = true := by simp; omega
    have e2 : decide (s ≠ (⟨#[]⟩ : ByteArray)) = true := by simp only [decide_eq_true_eq]; exact fun e => hs ((empty_iff s).1 e)
    rw [n_spec_LabelsL1, e1, e2]
    simp only [cond_true, bindv]
    rcases Nat.lt_or_ge i s.size with hi | hi
    · have e3 : decide ((i : Int) = (s.size : Int)) = false := by simp; omega
      rw [e3]
      simp only [cond_false]
      cases hb : decide (bt s i = 46) with
      | true =>
        have hd := (bt_dot hi).1 (of_decide_eq_true hb)
        simp only [cond_true]
        rw [labels_loop s hs n _ (i + 1) (i + 1) (Nat.le_refl _) (by omega) (by omega) (by simp), drop_split h1 hd, splitL_dot h4, ext_ba]
        simp
      | false =>
        have hd : s.data.toList[i]? ≠ some 46 := fun e => (of_decide_eq_false hb) ((bt_dot hi).2 e)
        simp only [cond_false]
        rw [labels_loop s hs n _ z (i + 1) (by omega) (by omega) (by omega) ?_]
        rw [show i + 1 - z = (i - z) + 1 by omega, List.take_add_one]
        intro hm
        rcases List.mem_append.1 hm with hm | hm
        · exact h4 hm
        · rw [List.getElem?_drop, show z + (i - z) = i by omega] at hm
          cases hx : s.data.toList[i]? with
          | none => rw [hx] at hm; simp at hm
          | some c =>
            rw [hx] at hm hd
            simp at hm
            exact hd (by rw [hm])
    · have hi' : i = s.size := by omega
      subst hi'
      have e3 : decide ((s.size : Int) = (s.size : Int)) = true := by simp
      rw [e3]
      simp only [cond_true]
      obtain ⟨m, rfl⟩ : ∃ m, n = m + 1 := ⟨n - 1, by omega⟩
      have e4 : decide (((s.size + 1 : Nat) : Int) ≤ (s.size : Int)) = false := by simp; omega
      rw [n_spec_LabelsL1, e4]
      simp only [cond_false]
      have hall : (s.data.toList.drop z).take (s.size - z) = s.data.toList.drop z := List.take_of_length_le (by rw [List.length_drop, size_list]; omega)
      rw [hall] at h4
      rw [splitL_nodot h4, ext_ba, hall]
      rfl
theorem spec_Labels_eq (s : ByteArray) : n_spec_Labels s = LB s := by
  unfold n_spec_Labels LB
  split
  · rename_i h
    have he := (empty_iff s).2 h
    have e2 : decide (s ≠ (⟨#[]⟩ : ByteArray)) = false := by simp [he]
    have e1 : decide (((0 : Nat) : Int) ≤ (s.size : Int)) = true := by simp
    rw [n_spec_LabelsL1, e1, e2]
    rfl
  · rename_i h
    rw [labels_loop s h _ _ _ _ (Nat.le_refl _) (Nat.zero_le _) (by omega) (by simp)]
    simp
theorem index_split : ∀ {l : List UInt8}, 0 < l.count 46 → ∃ a b : List UInt8, l = a ++ 46 :: b ∧ 46 ∉ a ∧ Lib.indexByte l 46 = (a.length : Int)
  | [], h => by simp at h
  | c :: l, h => by
    by_cases hc : c = 46
    · subst hc
      exact ⟨[], l, rfl, by simp, by simp [Lib.indexByte]⟩
    · have h2 : 0 < l.count 46 := by rw [List.count_cons] at h; simpa [hc] using h
      obtain ⟨a, b, e, ha, hi⟩ := index_split h2
      refine ⟨c :: a, b, by rw [e]; rfl, ?_, ?_⟩
      · simp only [List.mem_cons, not_or]; exact ⟨fun e => hc e.symm, ha⟩
      · have hc' : (c == 46) = false := by simpa using hc
        have hne : ¬ (Lib.indexByte l 46 == -1) = true := by rw [hi]; simp <;> omega
        have e3 : Lib.indexByte (c :: l) 46 = Lib.indexByte l 46 + 1 := by
          simp only [Lib.indexByte, hc', Bool.false_eq_true, if_false]
          rw [if_neg hne]
        rw [e3, hi]; simp
theorem gs_loop (a0 : ByteArray) : ∀ (n : Nat) (l : List ByteArray) (s : ByteArray) (i : Nat), i + n = n_strings_Count a0 + 2 → n_strings_Count s + i = n_strings_Count a0 → l.length = n_strings_Count a0 + 1 → s.size ≤ 2097152 →
    n_strings_genSplitL1 (n_strings_Count a0 + 1) n l s i = l.take i ++ (splitL s.data.toList).map toBA
  | 0, l, s, i, h1, h2, h3, hs => by omega
  | n + 1, l, s, i, h1, h2, h3, hs => by
    rw [n_strings_genSplitL1]
    have hat : ∀ (f : ByteArray → List ByteArray), atL l i f = f (l[i]'(by omega)) := fun f => atL_lt (by omega)
    cases hc : decide ((i : Int) < ((n_strings_Count a0 + 1 : Nat) : Int) - 1) with
    | false =>
      have hic := of_decide_eq_false hc
      have hi : i = n_strings_Count a0 := by omega
      have h0 : n_strings_Count s = 0 := by omega
      have hnd : 46 ∉ s.data.toList := List.count_eq_zero.1 h0
      simp only [cond_false, hat]
      rw [splitL_nodot hnd]
      simp only [List.map_cons, List.map_nil, toBA_data]
      rw [List.take_add_one, List.take_set_of_le (Nat.le_refl _)]
      simp [show i < l.length by omega]
    | true =>
      have hic := of_decide_eq_true hc
      have hpos : 0 < s.data.toList.count 46 := by
        have : 0 < n_strings_Count s := by omega
        exact this
      obtain ⟨a, b, e, ha, hidx⟩ := index_split hpos
      have hv : n_strings_Index s = (a.length : Int) := hidx
      have hsz : s.size = a.length + 1 + b.length := by rw [← size_list, e]; simp <;> omega
      have e2 : decide ((a.length : Int) < 0) = false := by simp
      simp only [cond_true, bindv, hv, e2, cond_false, hat]
      have x1 : s.extract 0 (((a.length : Int) + 0).toNat) = toBA a := by
        rw [ext_ba, e]; simp
      have x2 : s.extract (((a.length : Int) + 1).toNat) s.size = toBA b := by
        rw [ext_ba, e, show ((a.length : Int) + 1).toNat = a.length + 1 by omega, hsz]
        rw [List.drop_append, List.drop_eq_nil_of_le (by omega), show a.length + 1 - a.length = 1 by omega]
        simp
      have hcb : n_strings_Count (toBA b) + (i + 1) = n_strings_Count a0 := by
        have h5 : n_strings_Count s = n_strings_Count (toBA b) + 1 := by
          simp only [n_strings_Count, Lib.countByte]
          rw [e, List.count_append, List.count_eq_zero.2 ha, List.count_cons]
          simp [toBA]
        omega
      have hbs : (toBA b).size ≤ 2097152 := by simp only [toBA, ByteArray.size, List.size_toArray]; omega
      rw [x1, x2, gs_loop a0 n (l.set i (toBA a)) (toBA b) (i + 1) (by omega) hcb (by rw [List.length_set]; exact h3) hbs, e, splitL_dot ha]
      rw [List.take_add_one, List.take_set_of_le (Nat.le_refl _)]
      simp [show i < l.length by omega, toBA]
theorem genSplit_eq (s : ByteArray) (h : fitS s) : n_strings_genSplit s = (splitL s.data.toList).map toBA := by
  have hc := count_le s
  have hm : min (n_strings_Count s + 1) (s.size + 1) = n_strings_Count s + 1 := by omega
  unfold n_strings_genSplit
  have e1 : decide ((-1 : Int) = 0) = false := by decide
  have e2 : decide ((⟨#[46]⟩ : ByteArray) = (⟨#[]⟩ : ByteArray)) = false := by decide
  have e3 : decide ((-1 : Int) < 0) = true := by decide
  simp only [e1, e2, e3, cond_true, cond_false, bindv, hm]
  rw [gs_loop s _ _ _ _ (by omega) (by omega) (by simp) h]
  simp
theorem impl_Labels_eq (s : ByteArray) (h : fitS s) : n_impl_Labels s = LB s := by
  unfold n_impl_Labels LB
  cases hc : decide (s = (⟨#[]⟩ : ByteArray)) with
  | true =>
    have := (empty_iff s).1 (of_decide_eq_true hc)
    simp [this]
  | false =>
    have : ¬ s.size = 0 := fun e => (of_decide_eq_false hc) ((empty_iff s).2 e)
    rw [if_neg this]
    simp only [cond_false]
    first | exact genSplit_eq s h | (simp only [n_strings_Split, bindv]; exact genSplit_eq s h)
theorem tr2_n_spec_Labels (a0 : ByteArray) (h0 : fitS a0) : Tr Tryz.prog 55 [.ro ⟨false, [dS (a0)]⟩] [⟨false, [.sl 1 (((LB a0)).map encS)]⟩] := by
  have := tr_n_spec_Labels a0 h0
  rwa [spec_Labels_eq a0] at this
theorem tr2_n_impl_Labels (a0 : ByteArray) (h0 : fitS a0) : Tr Tryz.prog 64 [.ro ⟨false, [dS (a0)]⟩] [⟨false, [.sl 1 (((LB a0)).map encS)]⟩] := by
  have := tr_n_impl_Labels a0 h0
  rwa [impl_Labels_eq a0 h0] at this
end Go.Proofs.YtglilpigoocgeaaGreatDoor.V
