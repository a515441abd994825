/-
  The families of laws of IntS.
-/
import Derived.Test.YtglilpigoocgeaaGreatDoorN
import Derived.Test.YtglilpigoocgeaaGreatDoorC
import Derived.Test.YtglilpigoocgeaaGreatDoorM
namespace Go.Proofs.YtglilpigoocgeaaGreatDoor.V
open Go
set_option linter.unusedVariables false
set_option linter.unusedSimpArgs false
set_option maxRecDepth 20000 in
theorem tr_toIntS (xs : List Int) (hx : fitL fitU xs) : Tr Tryz.prog 7 [.ro ⟨false, [.sl 1 (xs.map encI)]⟩] [⟨false, [.sl 1 (xs.map encI)]⟩] := by
  refine tr_go tabOk Tryz.func7 rfl rfl rfl rfl rfl (ov := [(0, .t ⟨false, [.d (.sl 1 (xs.map encI))]⟩)]) (hv := []) rfl rfl ?_
  refine v_seq ?_
  refine v_reg ?_
  refine sy _ (zas rfl (en 1)) rfl rfl ?_
  refine s_end ?_
  refine v_seq ?_
  refine v_reg ?_
  refine sy _ (zmv rfl (e rfl rfl)) rfl rfl ?_
  refine sy (.t ⟨false, [.d (dI ((xs.map encI).length : Int))]⟩) (zln tabOk rfl rfl (e rfl rfl) .d) rfl rfl ?_
  refine sr 0 (.t ⟨false, [.sr 0 1 0 ((xs.map encI).length) ((xs.map encI).length)]⟩) (.row 1 (List.replicate ((xs.map encI).length) [dI (0)]) true 1 0) (zmk tabOk rfl rfl rfl (e rfl rfl) (e rfl rfl) (Nat.le_refl _) (mkok hx.1 rfl) rfl rfl) rfl rfl ?_
  refine sy _ (zas rfl (e rfl rfl)) rfl rfl ?_
  refine s_end ?_
  refine v_seq ?_
  refine v_seq ?_
  refine v_reg ?_
  refine sy _ (zas rfl (ec rfl)) rfl rfl ?_
  refine s_end ?_
  refine v_block ?_
  have hB := hx.1
  refine v_lp (fun (i : Nat) => [(0, .t ⟨false, [.d (.sl 1 (xs.map encI))]⟩), (3, .t ⟨false, [.sr 0 1 0 ((xs.map encI).length) ((xs.map encI).length)]⟩), (4, .t ⟨false, [.d (dI (i : Int))]⟩)]) (fun i => [(0, .row 1 (fill encI xs [dI (0)] i) true 1 i)]) (fun i => i ≤ xs.length) (fun i => xs.length - i) 0 (Nat.zero_le _) ⟨rfl, rfl, rfl, trivial⟩ ⟨congrArg (fun l => VO.row 1 l true 1 0) fill0, trivial⟩ rfl (fun i hi => ?_)
  refine v_seq ?_
  refine v_seq ?_
  refine v_reg ?_
  refine sy _ (zmv rfl (e rfl rfl)) rfl rfl ?_
  refine sy _ (zmv rfl (e rfl rfl)) rfl rfl ?_
  refine sy (.t ⟨false, [.d (dI ((xs.map encI).length : Int))]⟩) (zln tabOk rfl rfl (e rfl rfl) .d) rfl rfl ?_
  refine sy (.t ⟨false, [.d (dB (decide (((i : Int)) < (((xs.map encI).length : Int)))))]⟩) (y_bin rfl (e rfl rfl) (e rfl rfl) (fun _ => b_lss) rfl) rfl rfl ?_
  refine s_end ?_
  refine v_cond (e rfl rfl) (fun hb1 => ?_) fun hb1 => ?_
  · have hlt : i < xs.length := by have := hb1; simp at this; omega
    obtain ⟨x, hxi⟩ := some_of_lt hlt
    refine v_skip ?_
    refine v_seq ?_
    refine v_block ?_
    refine v_reg ?_
    refine sy _ (zmv rfl (e rfl rfl)) rfl rfl ?_
    refine sy _ (zmv rfl (e rfl rfl)) rfl rfl ?_
    refine sy _ (zmv rfl (e rfl rfl)) rfl rfl ?_
    refine sy _ (zmv rfl (e rfl rfl)) rfl rfl ?_
    refine sy (.t ⟨false, [.fe 1 (xs.map encI) i 0]⟩) (zix tabOk rfl rfl rfl (e rfl rfl) (e rfl rfl) (ltm_of_some hxi)) rfl rfl ?_
    refine sy (.t ⟨false, [.d (dI (x))]⟩) (zle tabOk rfl (e rfl rfl) (getm hxi) rfl rfl) rfl rfl ?_
    refine sy (.t ⟨false, [.ep 0 1 i 0]⟩) (zis tabOk rfl rfl rfl (e rfl rfl) rfl (e rfl rfl) (ltm_of_some hxi) (Nat.zero_add _)) rfl rfl ?_
    refine sw 0 (.row 1 (fill encI xs [dI (0)] (i + 1)) true 1 (i + 1)) (zsr tabOk rfl (e rfl rfl) rfl (fill_get hxi) (e rfl rfl) rfl (.lf .nil) rfl (.inl Nat.one_pos) (fill_set (f := encI) hxi)) rfl rfl ?_
    refine s_end ?_
    refine blk_norm ?_
    refine v_reg ?_
    refine sy _ (zmv rfl (e rfl rfl)) rfl rfl ?_
    refine sy (.t ⟨false, [.d (dI ((i : Int) + 1))]⟩) (y_bin rfl (e rfl rfl) (ec rfl) (fun _ => b_addn (by omega) (by omega)) rfl) rfl rfl ?_
    refine sy _ (zas rfl (e rfl rfl)) rfl rfl ?_
    refine s_end ?_
    exact lp_next (i + 1) hlt (by omega) ⟨rfl, rfl, rfl, trivial⟩ ⟨rfl, trivial⟩ rfl
  have hend : i = xs.length := by have := hb1; simp at this; omega
  refine v_exit ?_
  refine then_exit ?_
  refine loop_exit ?_
  refine blk_hit ?_
  refine v_seq ?_
  refine v_reg ?_
  refine sy _ (zmv rfl (e rfl rfl)) rfl rfl ?_
  refine sy _ (zas rfl (e rfl rfl)) rfl rfl ?_
  refine s_end ?_
  refine v_ret ?_
  exact post_ret (rv (.tmp (eg rfl rfl)) rfl (.sr rfl (fill_le hend) (fill_end hend) .nil) rfl .nil) (.ro .nil) rfl
set_option maxRecDepth 20000 in
theorem tr_eqIntS (xs ys : List Int) (hx : fitL fitU xs) (hy : fitL fitU ys) : Tr Tryz.prog 9 [.ro ⟨false, [.sl 1 (xs.map encI)]⟩, .ro ⟨false, [.sl 1 (ys.map encI)]⟩] [one (dB (decide (xs = ys)))] := by
  refine tr_go tabOk Tryz.func9 rfl rfl rfl rfl rfl (ov := [(0, .t ⟨false, [.d (.sl 1 (xs.map encI))]⟩), (1, .t ⟨false, [.d (.sl 1 (ys.map encI))]⟩)]) (hv := []) rfl rfl ?_
  refine v_seq ?_
  refine v_reg ?_
  refine sy _ (zas rfl (ec rfl)) rfl rfl ?_
  refine s_end ?_
  refine v_seq ?_
  refine v_seq ?_
  refine v_reg ?_
  refine sy _ (zmv rfl (e rfl rfl)) rfl rfl ?_
  refine sy (.t ⟨false, [.d (dI ((xs.map encI).length : Int))]⟩) (zln tabOk rfl rfl (e rfl rfl) .d) rfl rfl ?_
  refine sy _ (zmv rfl (e rfl rfl)) rfl rfl ?_
  refine sy (.t ⟨false, [.d (dI ((ys.map encI).length : Int))]⟩) (zln tabOk rfl rfl (e rfl rfl) .d) rfl rfl ?_
  refine sy (.t ⟨false, [.d (dB (decide ((((xs.map encI).length : Int)) ≠ (((ys.map encI).length : Int)))))]⟩) (y_bin rfl (e rfl rfl) (e rfl rfl) (fun _ => b_neq) rfl) rfl rfl ?_
  refine s_end ?_
  refine v_cond (e rfl rfl) (fun hb1 => ?_) fun hb1 => ?_
  · refine v_seq ?_
    refine v_reg ?_
    refine sy _ (zas rfl (ec rfl)) rfl rfl ?_
    refine s_end ?_
    refine v_ret ?_
    have hr : decide (xs = ys) = false := by simp at hb1 ⊢; intro h; subst h; exact hb1 rfl
    rw [hr]
    exact post_ret (rv (.tmp (eg rfl rfl)) rfl (.lf .nil) rfl .nil) (.ro (.ro .nil)) rfl
  have hlen : xs.length = ys.length := by have := hb1; simp at this; omega
  refine v_skip ?_
  refine v_seq ?_
  refine v_seq ?_
  refine v_reg ?_
  refine sy _ (zas rfl (ec rfl)) rfl rfl ?_
  refine s_end ?_
  refine v_block ?_
  have hB := hx.1
  refine v_lp (fun (i : Nat) => [(0, .t ⟨false, [.d (.sl 1 (xs.map encI))]⟩), (1, .t ⟨false, [.d (.sl 1 (ys.map encI))]⟩), (5, .t ⟨false, [.d (dI (i : Int))]⟩)]) (fun _ => []) (fun i => i ≤ xs.length ∧ xs.take i = ys.take i) (fun i => xs.length - i) 0 ⟨Nat.zero_le _, rfl⟩ ⟨rfl, rfl, rfl, trivial⟩ trivial rfl (fun i hi => ?_)
  refine v_seq ?_
  refine v_seq ?_
  refine v_reg ?_
  refine sy _ (zmv rfl (e rfl rfl)) rfl rfl ?_
  refine sy _ (zmv rfl (e rfl rfl)) rfl rfl ?_
  refine sy (.t ⟨false, [.d (dI ((xs.map encI).length : Int))]⟩) (zln tabOk rfl rfl (e rfl rfl) .d) rfl rfl ?_
  refine sy (.t ⟨false, [.d (dB (decide (((i : Int)) < (((xs.map encI).length : Int)))))]⟩) (y_bin rfl (e rfl rfl) (e rfl rfl) (fun _ => b_lss) rfl) rfl rfl ?_
  refine s_end ?_
  refine v_cond (e rfl rfl) (fun hb2 => ?_) fun hb2 => ?_
  · have hlt : i < xs.length := by simpa using hb2
    obtain ⟨x, hxi⟩ := some_of_lt hlt
    obtain ⟨y, hyi⟩ := some_of_lt (l := ys) (i := i) (by omega)
    refine v_skip ?_
    refine v_seq ?_
    refine v_block ?_
    refine v_seq ?_
    refine v_drw [⟨.t ⟨false, [.d (.sl 1 (xs.map encI))]⟩, [], [0], [], false⟩, ⟨.t ⟨false, [.d (dI (i : Int))]⟩, [], [5], [], false⟩, ⟨.t ⟨false, [.fe 1 (xs.map encI) i 0]⟩, [], [17, 18], [], false⟩, ⟨.t ⟨false, [.d (dI (x))]⟩, [], [19], [], false⟩, ⟨.t ⟨false, [.d (.sl 1 (ys.map encI))]⟩, [], [1], [], false⟩, ⟨.t ⟨false, [.d (dI (i : Int))]⟩, [], [5], [], false⟩, ⟨.t ⟨false, [.fe 1 (ys.map encI) i 0]⟩, [], [21, 22], [], false⟩, ⟨.t ⟨false, [.d (dI (y))]⟩, [], [23], [], false⟩, ⟨.t ⟨false, [.d (dB (decide ((x) ≠ (y))))]⟩, [], [20, 24], [], false⟩] mixed rfl rfl rfl rfl ⟨gN rfl rfl (fun t h A => dy (zmv rfl (A.e rfl rfl rfl))), gN rfl rfl (fun t h A => dy (zmv rfl (A.e rfl rfl rfl))), gN rfl rfl (fun t h A => dy (zix tabOk rfl rfl rfl (A.e rfl rfl rfl) (A.e rfl rfl rfl) (ltm_of_some hxi))), gN rfl rfl (fun t h A => dy (zle tabOk rfl (A.e rfl rfl rfl) (getm hxi) rfl rfl)), gN rfl rfl (fun t h A => dy (zmv rfl (A.e rfl rfl rfl))), gN rfl rfl (fun t h A => dy (zmv rfl (A.e rfl rfl rfl))), gN rfl rfl (fun t h A => dy (zix tabOk rfl rfl rfl (A.e rfl rfl rfl) (A.e rfl rfl rfl) (ltm_of_some hyi))), gN rfl rfl (fun t h A => dy (zle tabOk rfl (A.e rfl rfl rfl) (getm hyi) rfl rfl)), gN rfl rfl (fun t h A => dy (y_bin rfl (A.e rfl rfl rfl) (A.e rfl rfl rfl) (fun _ => b_neq) rfl)), trivial⟩ ?_
    refine s_end ?_
    refine v_cond (e rfl rfl) (fun hb3 => ?_) fun hb3 => ?_
    · refine v_seq ?_
      refine v_reg ?_
      refine sy _ (zas rfl (ec rfl)) rfl rfl ?_
      refine s_end ?_
      refine v_ret ?_
      have hr : decide (xs = ys) = false := by
        have hne : x ≠ y := by have := hb3; simpa using this
        simp only [decide_eq_false_iff_not]; intro h; subst h; rw [hxi] at hyi; injection hyi with hyi; exact hne hyi
      rw [hr]
      exact post_ret (rv (.tmp (eg rfl rfl)) rfl (.lf .nil) rfl .nil) (.ro (.ro .nil)) rfl
    refine v_skip ?_
    refine blk_norm ?_
    refine v_reg ?_
    refine sy _ (zmv rfl (e rfl rfl)) rfl rfl ?_
    refine sy (.t ⟨false, [.d (dI ((i : Int) + 1))]⟩) (y_bin rfl (e rfl rfl) (ec rfl) (fun _ => b_addn (by omega) (by omega)) rfl) rfl rfl ?_
    refine sy _ (zas rfl (e rfl rfl)) rfl rfl ?_
    refine s_end ?_
    have hxy : x = y := by have := hb3; simpa using this
    subst hxy
    exact lp_next (i + 1) ⟨hlt, by rw [List.take_add_one, List.take_add_one, hi.2, hxi, hyi]⟩ (by omega) ⟨rfl, rfl, rfl, trivial⟩ trivial rfl
  refine v_exit ?_
  refine then_exit ?_
  refine loop_exit ?_
  refine blk_hit ?_
  refine v_seq ?_
  refine v_reg ?_
  refine sy _ (zas rfl (ec rfl)) rfl rfl ?_
  refine s_end ?_
  refine v_ret ?_
  have hr : decide (xs = ys) = true := by
    have : i = xs.length := by have := hb2; simp at this; omega
    subst this
    have h5 := hi.2; rw [List.take_length, hlen, List.take_length] at h5; simpa using h5
  rw [hr]
  exact post_ret (rv (.tmp (eg rfl rfl)) rfl (.lf .nil) rfl .nil) (.ro (.ro .nil)) rfl
set_option maxRecDepth 20000 in
theorem tr_markIntS (xs : List Int) (hx : fitL fitU xs) (k : Int) (hk : k < 9223372036854775808) : Tr Tryz.prog 13 [.mu (one (.sl 1 (xs.map encI))) (one (.sl 1 ((mkL mkI xs k).1.map encI))), .ro (one (dI k))] [one (dI (mkL mkI xs k).2)] := by
  refine tr_go tabOk Tryz.func13 rfl rfl rfl rfl rfl (ov := [(0, .t ⟨false, [.sr 0 0 0 ((xs.map encI).length) ((xs.map encI).length)]⟩), (1, .t ⟨false, [.d (dI (k))]⟩)]) (hv := [(0, .row 1 (xs.map encI) true 0 0)]) rfl rfl ?_
  refine v_seq ?_
  refine v_reg ?_
  refine sy _ (zas rfl (ec rfl)) rfl rfl ?_
  refine s_end ?_
  refine v_seq ?_
  refine v_seq ?_
  refine v_reg ?_
  refine sy _ (zas rfl (ec rfl)) rfl rfl ?_
  refine s_end ?_
  refine v_block ?_
  have hB := hx.1
  refine v_lp (fun (i : Nat) => [(0, .t ⟨false, [.sr 0 0 0 ((xs.map encI).length) ((xs.map encI).length)]⟩), (1, .t ⟨false, [.d (dI (kTo mkI xs k i))]⟩), (5, .t ⟨false, [.d (dI (i : Int))]⟩)]) (fun i => [(0, .row 1 ((mkTo mkI xs k i).map encI) true 0 0)]) (fun i => i ≤ xs.length) (fun i => xs.length - i) 0 (Nat.zero_le _) ⟨rfl, congrArg (fun v => sc (dI v)) kTo_zero.symm, rfl, trivial⟩ ⟨congrArg (fun l => VO.row 1 (List.map encI l) true 0 0) mkTo_zero.symm, trivial⟩ rfl (fun i hi => ?_)
  refine v_seq ?_
  refine v_seq ?_
  refine v_reg ?_
  refine sy _ (zmv rfl (e rfl rfl)) rfl rfl ?_
  refine sy _ (zmv rfl (e rfl rfl)) rfl rfl ?_
  refine sy (.t ⟨false, [.d (dI ((xs.map encI).length : Int))]⟩) (zln tabOk rfl rfl (e rfl rfl) (.sr (dp := 0) rfl)) rfl rfl ?_
  refine sy (.t ⟨false, [.d (dB (decide (((i : Int)) < (((xs.map encI).length : Int)))))]⟩) (y_bin rfl (e rfl rfl) (e rfl rfl) (fun _ => b_lss) rfl) rfl rfl ?_
  refine s_end ?_
  refine v_cond (e rfl rfl) (fun hb1 => ?_) fun hb1 => ?_
  · have hlt : i < xs.length := by have := hb1; simp at this; omega
    obtain ⟨x, hxi⟩ := some_of_lt hlt
    have hkl : kTo mkI xs k i < 9223372036854775808 := kTo_lt mkI_lt hk
    generalize hk0 : kTo mkI xs k i = k0
    rw [hk0] at hkl
    refine v_skip ?_
    refine v_seq ?_
    refine v_block ?_
    refine v_seq ?_
    refine v_reg ?_
    refine sy _ (zmv rfl (e rfl rfl)) rfl rfl ?_
    refine sy _ (zmv rfl (e rfl rfl)) rfl rfl ?_
    refine sy _ (zmv rfl (e rfl rfl)) rfl rfl ?_
    refine sy (.t ⟨false, [.ep 0 0 i 0]⟩) (zis tabOk rfl rfl rfl (e rfl rfl) rfl (e rfl rfl) (ltm_of_some hxi) (Nat.zero_add _)) rfl rfl ?_
    refine sw 0 (.row 1 (((mkTo mkI xs k i).map encI).set i [dI (k0)]) true 0 0) (zsr0 tabOk rfl (e rfl rfl) rfl (mkTo_get hxi) (e rfl rfl) rfl (.lf .nil) rfl rfl rfl) rfl rfl ?_
    refine s_end ?_
    refine v_reg ?_
    refine sy _ (zmv rfl (e rfl rfl)) rfl rfl ?_
    refine sy (.t ⟨false, [.d (dI (nx k0))]⟩) (y_bin rfl (e rfl rfl) (ec rfl) (fun _ => b_nx) rfl) rfl rfl ?_
    refine sy _ (zas rfl (e rfl rfl)) rfl rfl ?_
    have hl1 : nx k0 < 9223372036854775808 := nx_lt _
    generalize hk1 : nx k0 = k1 at hl1 ⊢
    refine s_end ?_
    refine blk_norm ?_
    refine v_reg ?_
    refine sy _ (zmv rfl (e rfl rfl)) rfl rfl ?_
    refine sy (.t ⟨false, [.d (dI ((i : Int) + 1))]⟩) (y_bin rfl (e rfl rfl) (ec rfl) (fun _ => b_addn (by omega) (by omega)) rfl) rfl rfl ?_
    refine sy _ (zas rfl (e rfl rfl)) rfl rfl ?_
    refine s_end ?_
    subst hk0 hk1
    exact lp_next (i + 1) hlt (by omega) ⟨rfl, congrArg (fun v => sc (dI v)) (kTo_succ (f := mkI) hxi).symm, rfl, trivial⟩ ⟨congrArg (fun l => VO.row 1 l true 0 0) (mkTo_set (f := mkI) (c := encI) hxi), trivial⟩ rfl
  have hend : i = xs.length := by have := hb1; simp at this; omega
  refine v_exit ?_
  refine then_exit ?_
  refine loop_exit ?_
  refine blk_hit ?_
  refine v_seq ?_
  refine v_reg ?_
  refine sy _ (zmv rfl (e rfl rfl)) rfl rfl ?_
  refine sy _ (zas rfl (e rfl rfl)) rfl rfl ?_
  refine s_end ?_
  refine v_ret ?_
  have e1 : kTo mkI xs k i = (mkL mkI xs k).2 := kTo_end hend
  have e2 : ((mkTo mkI xs k i).map encI) = (mkL mkI xs k).1.map encI := by rw [mkTo_end hend]
  rw [← e1, ← e2]
  exact post_ret (rv (.tmp (eg rfl rfl)) rfl (.lf .nil) rfl .nil) (.mu rfl (.sl rfl (by rw [List.length_map, List.length_map, mkTo_len]) .nil) (.ro .nil)) rfl
set_option maxRecDepth 20000 in
theorem tr_heldIntS (xs ys : List Int) (hx : fitL fitU xs) (k : Int) (h0 : 0 ≤ k) (h1 : k + 16 * (wtL wtU xs : Int) < 4611686018427387904) (hys : ys = (mkL mkI xs k).1) : Tr Tryz.prog 15 [.ro (one (.sl 1 (ys.map encI))), .ro (one (dI k))] [one (dI (mkL mkI xs k).2)] := by
  have hlen : ys.length = xs.length := by rw [hys, mkL_len]
  refine tr_go tabOk Tryz.func15 rfl rfl rfl rfl rfl (ov := [(0, .t ⟨false, [.d (.sl 1 (ys.map encI))]⟩), (1, .t ⟨false, [.d (dI (k))]⟩)]) (hv := []) rfl rfl ?_
  refine v_seq ?_
  refine v_reg ?_
  refine sy _ (zas rfl (ec rfl)) rfl rfl ?_
  refine s_end ?_
  refine v_seq ?_
  refine v_seq ?_
  refine v_reg ?_
  refine sy _ (zas rfl (ec rfl)) rfl rfl ?_
  refine s_end ?_
  refine v_block ?_
  have hB := hx.1
  refine v_lp (fun (i : Nat) => [(0, .t ⟨false, [.d (.sl 1 (ys.map encI))]⟩), (1, .t ⟨false, [.d (dI (kTo mkI xs k i))]⟩), (5, .t ⟨false, [.d (dI (i : Int))]⟩)]) (fun _ => []) (fun i => i ≤ xs.length) (fun i => xs.length - i) 0 (Nat.zero_le _) ⟨rfl, congrArg (fun v => sc (dI v)) kTo_zero.symm, rfl, trivial⟩ trivial rfl (fun i hi => ?_)
  refine v_seq ?_
  refine v_seq ?_
  refine v_reg ?_
  refine sy _ (zmv rfl (e rfl rfl)) rfl rfl ?_
  refine sy _ (zmv rfl (e rfl rfl)) rfl rfl ?_
  refine sy (.t ⟨false, [.d (dI ((ys.map encI).length : Int))]⟩) (zln tabOk rfl rfl (e rfl rfl) .d) rfl rfl ?_
  refine sy (.t ⟨false, [.d (dB (decide (((i : Int)) < (((ys.map encI).length : Int)))))]⟩) (y_bin rfl (e rfl rfl) (e rfl rfl) (fun _ => b_lss) rfl) rfl rfl ?_
  refine s_end ?_
  refine v_cond (e rfl rfl) (fun hb1 => ?_) fun hb1 => ?_
  · have hlt : i < xs.length := by have := hb1; simp at this; omega
    obtain ⟨x, hxi⟩ := some_of_lt hlt
    have hg := mkL_get (f := mkI) (k := k) hxi
    rw [← hys] at hg
    have hge := kTo_ge (i := i) mkI_ok h0 h1
    rw [drop_wt hxi] at hge
    generalize hk0 : kTo mkI xs k i = k0 at hg hge ⊢
    obtain ⟨y, hy⟩ : ∃ y, y = (mkI x k0).1 := ⟨_, rfl⟩
    rw [← hy] at hg
    have hf0 : y = k0 := by rw [hy]; rfl
    refine v_skip ?_
    refine v_seq ?_
    refine v_block ?_
    refine v_seq ?_
    refine v_seq ?_
    refine v_reg ?_
    refine sy _ (zmv rfl (e rfl rfl)) rfl rfl ?_
    refine sy _ (zmv rfl (e rfl rfl)) rfl rfl ?_
    refine sy (.t ⟨false, [.fe 1 (ys.map encI) i 0]⟩) (zix tabOk rfl rfl rfl (e rfl rfl) (e rfl rfl) (ltm_of_some hg)) rfl rfl ?_
    refine sy (.t ⟨false, [.d (dI (y))]⟩) (zle tabOk rfl (e rfl rfl) (getm hg) rfl rfl) rfl rfl ?_
    refine sy _ (zmv rfl (e rfl rfl)) rfl rfl ?_
    refine sy (.t ⟨false, [.d (dB (decide ((y) ≠ (k0))))]⟩) (y_bin rfl (e rfl rfl) (e rfl rfl) (fun _ => b_neq) rfl) rfl rfl ?_
    refine s_end ?_
    refine v_cond (e rfl rfl) (fun hb2 => ?_) fun hb2 => ?_
    · exact absurd hb2 (by simp [hf0])
    refine v_skip ?_
    refine v_reg ?_
    refine sy _ (zmv rfl (e rfl rfl)) rfl rfl ?_
    refine sy (.t ⟨false, [.d (dI (nx k0))]⟩) (y_bin rfl (e rfl rfl) (ec rfl) (fun _ => b_nx) rfl) rfl rfl ?_
    refine sy _ (zas rfl (e rfl rfl)) rfl rfl ?_
    have hg1 := nx_eq (k := k0) (by omega) (by omega)
    generalize hk1 : nx k0 = k1 at hg1 ⊢
    refine s_end ?_
    refine blk_norm ?_
    refine v_reg ?_
    refine sy _ (zmv rfl (e rfl rfl)) rfl rfl ?_
    refine sy (.t ⟨false, [.d (dI ((i : Int) + 1))]⟩) (y_bin rfl (e rfl rfl) (ec rfl) (fun _ => b_addn (by omega) (by omega)) rfl) rfl rfl ?_
    refine sy _ (zas rfl (e rfl rfl)) rfl rfl ?_
    refine s_end ?_
    subst hk1
    subst hk0
    exact lp_next (i + 1) hlt (by omega) ⟨rfl, congrArg (fun v => sc (dI v)) (kTo_succ (f := mkI) hxi).symm, rfl, trivial⟩ trivial rfl
  have hend : i = xs.length := by have := hb1; simp at this; omega
  refine v_exit ?_
  refine then_exit ?_
  refine loop_exit ?_
  refine blk_hit ?_
  refine v_seq ?_
  refine v_reg ?_
  refine sy _ (zmv rfl (e rfl rfl)) rfl rfl ?_
  refine sy _ (zas rfl (e rfl rfl)) rfl rfl ?_
  refine s_end ?_
  refine v_ret ?_
  have e1 : kTo mkI xs k i = (mkL mkI xs k).2 := kTo_end hend
  rw [← e1]
  exact post_ret (rv (.tmp (eg rfl rfl)) rfl (.lf .nil) rfl .nil) (.ro (.ro .nil)) rfl
end Go.Proofs.YtglilpigoocgeaaGreatDoor.V
