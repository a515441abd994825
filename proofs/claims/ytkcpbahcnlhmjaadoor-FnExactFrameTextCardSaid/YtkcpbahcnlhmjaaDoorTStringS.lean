/-
  The families of laws of StringS.
-/
import Derived.Test.YtkcpbahcnlhmjaaDoorN
import Derived.Test.YtkcpbahcnlhmjaaDoorC
namespace Go.Proofs.YtkcpbahcnlhmjaaDoor.V
open Go
set_option linter.unusedVariables false
set_option linter.unusedSimpArgs false
set_option maxRecDepth 20000 in
theorem tr_szStringS (xs : List ByteArray) (hb : bndL bndS xs) (left : Int) (h0 : 0 ≤ left) (hl : left ≤ 1048576) : TrX Tryd.prog 30 [.ro ⟨false, [.sl 1 (xs.map encS)]⟩, .ro (one (dI left))] (resI fun r => 0 ≤ r → r + (wtL wtU xs : Int) ≤ left ∧ fitL fitS xs) := by
  have hB := hb.1
  have hlm : (xs.map encS).length = xs.length := List.length_map _
  refine trX_go tabOk Tryd.func30 rfl rfl rfl rfl rfl (ov := [(0, .t ⟨false, [.d (.sl 1 (xs.map encS))]⟩), (1, .t ⟨false, [.d (dI (left))]⟩)]) (hv := []) rfl rfl ?_
  refine v_seq ?_
  refine v_reg ?_
  refine sy _ (zas rfl (ec rfl)) rfl rfl ?_
  refine s_end ?_
  refine v_seq ?_
  refine v_reg ?_
  refine sy _ (zmv rfl (e rfl rfl)) rfl rfl ?_
  refine sy _ (zmv rfl (e rfl rfl)) rfl rfl ?_
  refine sy (.t ⟨false, [.d (dI ((xs.map encS).length : Int))]⟩) (zln tabOk rfl rfl (e rfl rfl) .d) rfl rfl ?_
  refine sy (.t ⟨false, [.d (dI (left - ((xs.map encS).length : Int)))]⟩) (y_bin rfl (e rfl rfl) (e rfl rfl) (fun _ => b_subn (by omega) (by omega)) rfl) rfl rfl ?_
  refine sy _ (zas rfl (e rfl rfl)) rfl rfl ?_
  refine s_end ?_
  refine v_seq ?_
  refine v_seq ?_
  refine v_reg ?_
  refine sy _ (zmv rfl (e rfl rfl)) rfl rfl ?_
  refine sy (.t ⟨false, [.d (dB (decide ((left - ((xs.map encS).length : Int)) < (0))))]⟩) (y_bin rfl (e rfl rfl) (ec rfl) (fun _ => b_lss) rfl) rfl rfl ?_
  refine s_end ?_
  refine v_cond (e rfl rfl) (fun hb1 => ?_) fun hb1 => ?_
  · refine v_seq ?_
    refine v_reg ?_
    refine sy _ (zas rfl (ec rfl)) rfl rfl ?_
    refine s_end ?_
    refine v_ret ?_
    exact post_retX [one (dI (-1))] ⟨-1, fun h => by omega, rfl⟩ (rv (.tmp (eg rfl rfl)) rfl (.lf .nil) rfl .nil) (.ro (.ro .nil)) rfl
  have p2 : 0 ≤ left - ((xs.map encS).length : Int) := by have := hb1; simp at this; omega
  refine v_skip ?_
  refine v_seq ?_
  refine v_seq ?_
  refine v_reg ?_
  refine sy _ (zas rfl (ec rfl)) rfl rfl ?_
  refine s_end ?_
  refine v_block ?_
  refine v_lp (fun (q : Nat × Int) => [(0, .t ⟨false, [.d (.sl 1 (xs.map encS))]⟩), (1, .t ⟨false, [.d (dI (q.2))]⟩), (5, .t ⟨false, [.d (dI (q.1 : Int))]⟩)]) (fun _ => []) (fun q => q.1 ≤ xs.length ∧ 0 ≤ q.2 ∧ q.2 + (wtTo wtU xs q.1 : Int) + xs.length ≤ left ∧ allTo fitS xs q.1) (fun q => xs.length - q.1) (0, left - ((xs.map encS).length : Int)) ⟨Nat.zero_le _, by simp only; omega, by simp only [wtTo, List.take_zero, List.map_nil, List.sum_nil]; omega, allTo_zero⟩ ⟨rfl, rfl, rfl, trivial⟩ trivial rfl (fun q hi => ?_)
  obtain ⟨i, lf⟩ := q
  have hi0 := hi.1; have hi1 := hi.2.1; have hi2 := hi.2.2.1
  simp only at hi0 hi1 hi2
  refine v_seq ?_
  refine v_seq ?_
  refine v_reg ?_
  refine sy _ (zmv rfl (e rfl rfl)) rfl rfl ?_
  refine sy _ (zmv rfl (e rfl rfl)) rfl rfl ?_
  refine sy (.t ⟨false, [.d (dI ((xs.map encS).length : Int))]⟩) (zln tabOk rfl rfl (e rfl rfl) .d) rfl rfl ?_
  refine sy (.t ⟨false, [.d (dB (decide (((i : Int)) < (((xs.map encS).length : Int)))))]⟩) (y_bin rfl (e rfl rfl) (e rfl rfl) (fun _ => b_lss) rfl) rfl rfl ?_
  refine s_end ?_
  refine v_cond (e rfl rfl) (fun hb3 => ?_) fun hb3 => ?_
  · have hlt : i < xs.length := by have := hb3; simp at this; omega
    obtain ⟨x, hxi⟩ := some_of_lt hlt
    have hbx := hb.2 _ (List.mem_of_getElem? hxi)
    simp only [bndS] at hbx
    refine v_skip ?_
    refine v_seq ?_
    refine v_block ?_
    refine v_seq ?_
    refine v_reg ?_
    refine sy _ (zmv rfl (e rfl rfl)) rfl rfl ?_
    refine sy _ (zmv rfl (e rfl rfl)) rfl rfl ?_
    refine sy _ (zmv rfl (e rfl rfl)) rfl rfl ?_
    refine sy (.t ⟨false, [.fe 1 (xs.map encS) i 0]⟩) (zix tabOk rfl rfl rfl (e rfl rfl) (e rfl rfl) (ltm_of_some hxi)) rfl rfl ?_
    refine sy (.t ⟨false, [.d (dS (x))]⟩) (zle tabOk rfl (e rfl rfl) (getm hxi) rfl rfl) rfl rfl ?_
    refine sy (.t ⟨false, [.d (dI (x.size : Int))]⟩) (zls tabOk rfl rfl (e rfl rfl)) rfl rfl ?_
    refine sy (.t ⟨false, [.d (dI (lf - (x.size : Int)))]⟩) (y_bin rfl (e rfl rfl) (e rfl rfl) (fun _ => b_subn (by omega) (by omega)) rfl) rfl rfl ?_
    refine sy _ (zas rfl (e rfl rfl)) rfl rfl ?_
    refine s_end ?_
    refine v_seq ?_
    refine v_reg ?_
    refine sy _ (zmv rfl (e rfl rfl)) rfl rfl ?_
    refine sy (.t ⟨false, [.d (dB (decide ((lf - (x.size : Int)) < (0))))]⟩) (y_bin rfl (e rfl rfl) (ec rfl) (fun _ => b_lss) rfl) rfl rfl ?_
    refine s_end ?_
    refine v_cond (e rfl rfl) (fun hb4 => ?_) fun hb4 => ?_
    · refine v_seq ?_
      refine v_reg ?_
      refine sy _ (zas rfl (ec rfl)) rfl rfl ?_
      refine s_end ?_
      refine v_ret ?_
      exact post_retX [one (dI (-1))] ⟨-1, fun h => by omega, rfl⟩ (rv (.tmp (eg rfl rfl)) rfl (.lf .nil) rfl .nil) (.ro (.ro .nil)) rfl
    have p5 : 0 ≤ lf - (x.size : Int) := by have := hb4; simp at this; omega
    refine v_skip ?_
    refine blk_norm ?_
    refine v_reg ?_
    refine sy _ (zmv rfl (e rfl rfl)) rfl rfl ?_
    refine sy (.t ⟨false, [.d (dI ((i : Int) + 1))]⟩) (y_bin rfl (e rfl rfl) (ec rfl) (fun _ => b_addn (by omega) (by omega)) rfl) rfl rfl ?_
    refine sy _ (zas rfl (e rfl rfl)) rfl rfl ?_
    refine s_end ?_
    have e1 := wtTo_succ (f := wtU) hxi
    have e2 : fitS x := by simp only [fitS]; omega
    have e4 : wtU x = 0 := rfl
    exact lp_next (i + 1, lf - (x.size : Int)) ⟨hlt, by simp only; omega, by simp only; omega, allTo_succ hxi hi.2.2.2 e2⟩ (by simp only; omega) ⟨rfl, rfl, rfl, trivial⟩ trivial rfl
  have hend : i = xs.length := by have := hb3; simp at this; omega
  refine v_exit ?_
  refine then_exit ?_
  refine loop_exit ?_
  refine blk_hit ?_
  refine v_seq ?_
  refine v_reg ?_
  refine sy _ (zmv rfl (e rfl rfl)) rfl rfl ?_
  refine sy _ (zas rfl (e rfl rfl)) rfl rfl ?_
  refine s_end ?_
  refine v_ret ?_
  have e1 := wtTo_end (f := wtU) hend
  exact post_retX [one (dI (lf))] ⟨lf, fun h => ⟨by rw [e1]; omega, ⟨by omega, allTo_end hend hi.2.2.2⟩⟩, rfl⟩ (rv (.tmp (eg rfl rfl)) rfl (.lf .nil) rfl .nil) (.ro (.ro .nil)) rfl
set_option maxRecDepth 20000 in
theorem tr_toStringS (xs : List ByteArray) (hx : fitL fitS xs) : Tr Tryd.prog 40 [.ro ⟨false, [.sl 1 (xs.map encS)]⟩] [⟨false, [.sl 1 (xs.map encS)]⟩] := by
  refine tr_go tabOk Tryd.func40 rfl rfl rfl rfl rfl (ov := [(0, .t ⟨false, [.d (.sl 1 (xs.map encS))]⟩)]) (hv := []) rfl rfl ?_
  refine v_seq ?_
  refine v_reg ?_
  refine sy _ (zas rfl (en 1)) rfl rfl ?_
  refine s_end ?_
  refine v_seq ?_
  refine v_reg ?_
  refine sy _ (zmv rfl (e rfl rfl)) rfl rfl ?_
  refine sy (.t ⟨false, [.d (dI ((xs.map encS).length : Int))]⟩) (zln tabOk rfl rfl (e rfl rfl) .d) rfl rfl ?_
  refine sr 0 (.t ⟨false, [.sr 0 1 0 ((xs.map encS).length) ((xs.map encS).length)]⟩) (.row 1 (List.replicate ((xs.map encS).length) [dS (⟨#[]⟩)]) true 1 0) (zmk tabOk rfl rfl rfl (e rfl rfl) (e rfl rfl) (Nat.le_refl _) (mkok hx.1 rfl) rfl rfl) rfl rfl ?_
  refine sy _ (zas rfl (e rfl rfl)) rfl rfl ?_
  refine s_end ?_
  refine v_seq ?_
  refine v_seq ?_
  refine v_reg ?_
  refine sy _ (zas rfl (ec rfl)) rfl rfl ?_
  refine s_end ?_
  refine v_block ?_
  have hB := hx.1
  refine v_lp (fun (i : Nat) => [(0, .t ⟨false, [.d (.sl 1 (xs.map encS))]⟩), (3, .t ⟨false, [.sr 0 1 0 ((xs.map encS).length) ((xs.map encS).length)]⟩), (4, .t ⟨false, [.d (dI (i : Int))]⟩)]) (fun i => [(0, .row 1 (fill encS xs [dS (⟨#[]⟩)] i) true 1 i)]) (fun i => i ≤ xs.length) (fun i => xs.length - i) 0 (Nat.zero_le _) ⟨rfl, rfl, rfl, trivial⟩ ⟨congrArg (fun l => VO.row 1 l true 1 0) fill0, trivial⟩ rfl (fun i hi => ?_)
  refine v_seq ?_
  refine v_seq ?_
  refine v_reg ?_
  refine sy _ (zmv rfl (e rfl rfl)) rfl rfl ?_
  refine sy _ (zmv rfl (e rfl rfl)) rfl rfl ?_
  refine sy (.t ⟨false, [.d (dI ((xs.map encS).length : Int))]⟩) (zln tabOk rfl rfl (e rfl rfl) .d) rfl rfl ?_
  refine sy (.t ⟨false, [.d (dB (decide (((i : Int)) < (((xs.map encS).length : Int)))))]⟩) (y_bin rfl (e rfl rfl) (e rfl rfl) (fun _ => b_lss) rfl) rfl rfl ?_
  refine s_end ?_
  refine v_cond (e rfl rfl) (fun hb1 => ?_) fun hb1 => ?_
  · have hlt : i < xs.length := by have := hb1; simp at this; omega
    obtain ⟨x, hxi⟩ := some_of_lt hlt
    refine v_skip ?_
    refine v_seq ?_
    refine v_block ?_
    refine v_reg ?_
    refine sy _ (zmv rfl (e rfl rfl)) rfl rfl ?_
    refine sy _ (zmv rfl (e rfl rfl)) rfl rfl ?_
    refine sy _ (zmv rfl (e rfl rfl)) rfl rfl ?_
    refine sy _ (zmv rfl (e rfl rfl)) rfl rfl ?_
    refine sy (.t ⟨false, [.fe 1 (xs.map encS) i 0]⟩) (zix tabOk rfl rfl rfl (e rfl rfl) (e rfl rfl) (ltm_of_some hxi)) rfl rfl ?_
    refine sy (.t ⟨false, [.d (dS (x))]⟩) (zle tabOk rfl (e rfl rfl) (getm hxi) rfl rfl) rfl rfl ?_
    refine sy (.t ⟨false, [.ep 0 1 i 0]⟩) (zis tabOk rfl rfl rfl (e rfl rfl) rfl (e rfl rfl) (ltm_of_some hxi) (Nat.zero_add _)) rfl rfl ?_
    refine sw 0 (.row 1 (fill encS xs [dS (⟨#[]⟩)] (i + 1)) true 1 (i + 1)) (zsr tabOk rfl (e rfl rfl) rfl (fill_get hxi) (e rfl rfl) rfl (.lf .nil) rfl (.inl Nat.one_pos) (fill_set (f := encS) hxi)) rfl rfl ?_
    refine s_end ?_
    refine blk_norm ?_
    refine v_reg ?_
    refine sy _ (zmv rfl (e rfl rfl)) rfl rfl ?_
    refine sy (.t ⟨false, [.d (dI ((i : Int) + 1))]⟩) (y_bin rfl (e rfl rfl) (ec rfl) (fun _ => b_addn (by omega) (by omega)) rfl) rfl rfl ?_
    refine sy _ (zas rfl (e rfl rfl)) rfl rfl ?_
    refine s_end ?_
    exact lp_next (i + 1) hlt (by omega) ⟨rfl, rfl, rfl, trivial⟩ ⟨rfl, trivial⟩ rfl
  have hend : i = xs.length := by have := hb1; simp at this; omega
  refine v_exit ?_
  refine then_exit ?_
  refine loop_exit ?_
  refine blk_hit ?_
  refine v_seq ?_
  refine v_reg ?_
  refine sy _ (zmv rfl (e rfl rfl)) rfl rfl ?_
  refine sy _ (zas rfl (e rfl rfl)) rfl rfl ?_
  refine s_end ?_
  refine v_ret ?_
  exact post_ret (rv (.tmp (eg rfl rfl)) rfl (.sr rfl (fill_le hend) (fill_end hend) .nil) rfl .nil) (.ro .nil) rfl
set_option maxRecDepth 20000 in
theorem tr_eqStringS (xs ys : List ByteArray) (hx : fitL fitS xs) (hy : fitL fitS ys) : Tr Tryd.prog 55 [.ro ⟨false, [.sl 1 (xs.map encS)]⟩, .ro ⟨false, [.sl 1 (ys.map encS)]⟩] [one (dB (decide (xs = ys)))] := by
  refine tr_go tabOk Tryd.func55 rfl rfl rfl rfl rfl (ov := [(0, .t ⟨false, [.d (.sl 1 (xs.map encS))]⟩), (1, .t ⟨false, [.d (.sl 1 (ys.map encS))]⟩)]) (hv := []) rfl rfl ?_
  refine v_seq ?_
  refine v_reg ?_
  refine sy _ (zas rfl (ec rfl)) rfl rfl ?_
  refine s_end ?_
  refine v_seq ?_
  refine v_seq ?_
  refine v_reg ?_
  refine sy _ (zmv rfl (e rfl rfl)) rfl rfl ?_
  refine sy (.t ⟨false, [.d (dI ((xs.map encS).length : Int))]⟩) (zln tabOk rfl rfl (e rfl rfl) .d) rfl rfl ?_
  refine sy _ (zmv rfl (e rfl rfl)) rfl rfl ?_
  refine sy (.t ⟨false, [.d (dI ((ys.map encS).length : Int))]⟩) (zln tabOk rfl rfl (e rfl rfl) .d) rfl rfl ?_
  refine sy (.t ⟨false, [.d (dB (decide ((((xs.map encS).length : Int)) ≠ (((ys.map encS).length : Int)))))]⟩) (y_bin rfl (e rfl rfl) (e rfl rfl) (fun _ => b_neq) rfl) rfl rfl ?_
  refine s_end ?_
  refine v_cond (e rfl rfl) (fun hb1 => ?_) fun hb1 => ?_
  · refine v_seq ?_
    refine v_reg ?_
    refine sy _ (zas rfl (ec rfl)) rfl rfl ?_
    refine s_end ?_
    refine v_ret ?_
    have hr : decide (xs = ys) = false := by simp at hb1 ⊢; intro h; subst h; exact hb1 rfl
    rw [hr]
    exact post_ret (rv (.tmp (eg rfl rfl)) rfl (.lf .nil) rfl .nil) (.ro (.ro .nil)) rfl
  have hlen : xs.length = ys.length := by have := hb1; simp at this; omega
  refine v_skip ?_
  refine v_seq ?_
  refine v_seq ?_
  refine v_reg ?_
  refine sy _ (zas rfl (ec rfl)) rfl rfl ?_
  refine s_end ?_
  refine v_block ?_
  have hB := hx.1
  refine v_lp (fun (i : Nat) => [(0, .t ⟨false, [.d (.sl 1 (xs.map encS))]⟩), (1, .t ⟨false, [.d (.sl 1 (ys.map encS))]⟩), (5, .t ⟨false, [.d (dI (i : Int))]⟩)]) (fun _ => []) (fun i => i ≤ xs.length ∧ xs.take i = ys.take i) (fun i => xs.length - i) 0 ⟨Nat.zero_le _, rfl⟩ ⟨rfl, rfl, rfl, trivial⟩ trivial rfl (fun i hi => ?_)
  refine v_seq ?_
  refine v_seq ?_
  refine v_reg ?_
  refine sy _ (zmv rfl (e rfl rfl)) rfl rfl ?_
  refine sy _ (zmv rfl (e rfl rfl)) rfl rfl ?_
  refine sy (.t ⟨false, [.d (dI ((xs.map encS).length : Int))]⟩) (zln tabOk rfl rfl (e rfl rfl) .d) rfl rfl ?_
  refine sy (.t ⟨false, [.d (dB (decide (((i : Int)) < (((xs.map encS).length : Int)))))]⟩) (y_bin rfl (e rfl rfl) (e rfl rfl) (fun _ => b_lss) rfl) rfl rfl ?_
  refine s_end ?_
  refine v_cond (e rfl rfl) (fun hb2 => ?_) fun hb2 => ?_
  · have hlt : i < xs.length := by simpa using hb2
    obtain ⟨x, hxi⟩ := some_of_lt hlt
    obtain ⟨y, hyi⟩ := some_of_lt (l := ys) (i := i) (by omega)
    refine v_skip ?_
    refine v_seq ?_
    refine v_block ?_
    refine v_seq ?_
    refine v_drw [⟨.t ⟨false, [.d (.sl 1 (xs.map encS))]⟩, [], [0], [], false⟩, ⟨.t ⟨false, [.d (dI (i : Int))]⟩, [], [5], [], false⟩, ⟨.t ⟨false, [.fe 1 (xs.map encS) i 0]⟩, [], [17, 18], [], false⟩, ⟨.t ⟨false, [.d (dS (x))]⟩, [], [19], [], false⟩, ⟨.t ⟨false, [.d (.sl 1 (ys.map encS))]⟩, [], [1], [], false⟩, ⟨.t ⟨false, [.d (dI (i : Int))]⟩, [], [5], [], false⟩, ⟨.t ⟨false, [.fe 1 (ys.map encS) i 0]⟩, [], [21, 22], [], false⟩, ⟨.t ⟨false, [.d (dS (y))]⟩, [], [23], [], false⟩, ⟨.t ⟨false, [.d (dB (decide ((x) ≠ (y))))]⟩, [], [20, 24], [], false⟩] mixed rfl rfl rfl rfl ⟨gN rfl rfl (fun t h A => dy (zmv rfl (A.e rfl rfl rfl))), gN rfl rfl (fun t h A => dy (zmv rfl (A.e rfl rfl rfl))), gN rfl rfl (fun t h A => dy (zix tabOk rfl rfl rfl (A.e rfl rfl rfl) (A.e rfl rfl rfl) (ltm_of_some hxi))), gN rfl rfl (fun t h A => dy (zle tabOk rfl (A.e rfl rfl rfl) (getm hxi) rfl rfl)), gN rfl rfl (fun t h A => dy (zmv rfl (A.e rfl rfl rfl))), gN rfl rfl (fun t h A => dy (zmv rfl (A.e rfl rfl rfl))), gN rfl rfl (fun t h A => dy (zix tabOk rfl rfl rfl (A.e rfl rfl rfl) (A.e rfl rfl rfl) (ltm_of_some hyi))), gN rfl rfl (fun t h A => dy (zle tabOk rfl (A.e rfl rfl rfl) (getm hyi) rfl rfl)), gN rfl rfl (fun t h A => dy (y_bin rfl (A.e rfl rfl rfl) (A.e rfl rfl rfl) (fun _ => b_sneq) rfl)), trivial⟩ ?_
    refine s_end ?_
    refine v_cond (e rfl rfl) (fun hb3 => ?_) fun hb3 => ?_
    · refine v_seq ?_
      refine v_reg ?_
      refine sy _ (zas rfl (ec rfl)) rfl rfl ?_
      refine s_end ?_
      refine v_ret ?_
      have hr : decide (xs = ys) = false := by
        have hne : x ≠ y := by have := hb3; simpa using this
        simp only [decide_eq_false_iff_not]; intro h; subst h; rw [hxi] at hyi; injection hyi with hyi; exact hne hyi
      rw [hr]
      exact post_ret (rv (.tmp (eg rfl rfl)) rfl (.lf .nil) rfl .nil) (.ro (.ro .nil)) rfl
    refine v_skip ?_
    refine blk_norm ?_
    refine v_reg ?_
    refine sy _ (zmv rfl (e rfl rfl)) rfl rfl ?_
    refine sy (.t ⟨false, [.d (dI ((i : Int) + 1))]⟩) (y_bin rfl (e rfl rfl) (ec rfl) (fun _ => b_addn (by omega) (by omega)) rfl) rfl rfl ?_
    refine sy _ (zas rfl (e rfl rfl)) rfl rfl ?_
    refine s_end ?_
    have hxy : x = y := by have := hb3; simpa using this
    subst hxy
    exact lp_next (i + 1) ⟨hlt, by rw [List.take_add_one, List.take_add_one, hi.2, hxi, hyi]⟩ (by omega) ⟨rfl, rfl, rfl, trivial⟩ trivial rfl
  refine v_exit ?_
  refine then_exit ?_
  refine loop_exit ?_
  refine blk_hit ?_
  refine v_seq ?_
  refine v_reg ?_
  refine sy _ (zas rfl (ec rfl)) rfl rfl ?_
  refine s_end ?_
  refine v_ret ?_
  have hr : decide (xs = ys) = true := by
    have : i = xs.length := by have := hb2; simp at this; omega
    subst this
    have h5 := hi.2; rw [List.take_length, hlen, List.take_length] at h5; simpa using h5
  rw [hr]
  exact post_ret (rv (.tmp (eg rfl rfl)) rfl (.lf .nil) rfl .nil) (.ro (.ro .nil)) rfl
end Go.Proofs.YtkcpbahcnlhmjaaDoor.V
