/-
  The families of laws of JobS.
-/
import Derived.Test.YtglilpigoocgeaaTJob
import Derived.Test.YtglilpigoocgeaaN
import Derived.Test.YtglilpigoocgeaaC
import Derived.Test.YtglilpigoocgeaaM
import Derived.Test.YtglilpigoocgeaaTFrameS
namespace Go.Proofs.Ytglilpigoocgeaa.V
open Go
set_option linter.unusedVariables false
set_option linter.unusedSimpArgs false
set_option maxRecDepth 20000 in
theorem tr_szJobS (xs : List Job) (hb : bndL Job.Bnd xs) (left : Int) (h0 : 0 ≤ left) (hl : left ≤ 1048576) : TrX Try.prog 52 [.ro ⟨false, [.sl 7 (xs.map Job.cells)]⟩, .ro (one (dI left))] (resI fun r => 0 ≤ r → r + (wtL Job.wt xs : Int) ≤ left ∧ fitL Job.Fit xs) := by
  have hB := hb.1
  have hlm : (xs.map Job.cells).length = xs.length := List.length_map _
  refine trX_go tabOk Try.func52 rfl rfl rfl rfl rfl (ov := [(0, .t ⟨false, [.d (.sl 7 (xs.map Job.cells))]⟩), (1, .t ⟨false, [.d (dI (left))]⟩)]) (hv := []) rfl rfl ?_
  refine v_seq ?_
  refine v_reg ?_
  refine sy _ (zas rfl (ec rfl)) rfl rfl ?_
  refine s_end ?_
  refine v_seq ?_
  refine v_reg ?_
  refine sy _ (zmv rfl (e rfl rfl)) rfl rfl ?_
  refine sy _ (zmv rfl (e rfl rfl)) rfl rfl ?_
  refine sy (.t ⟨false, [.d (dI ((xs.map Job.cells).length : Int))]⟩) (zln tabOk rfl rfl (e rfl rfl) .d) rfl rfl ?_
  refine sy (.t ⟨false, [.d (dI (left - ((xs.map Job.cells).length : Int)))]⟩) (y_bin rfl (e rfl rfl) (e rfl rfl) (fun _ => b_subn (by omega) (by omega)) rfl) rfl rfl ?_
  refine sy _ (zas rfl (e rfl rfl)) rfl rfl ?_
  refine s_end ?_
  refine v_seq ?_
  refine v_seq ?_
  refine v_reg ?_
  refine sy _ (zmv rfl (e rfl rfl)) rfl rfl ?_
  refine sy (.t ⟨false, [.d (dB (decide ((left - ((xs.map Job.cells).length : Int)) < (0))))]⟩) (y_bin rfl (e rfl rfl) (ec rfl) (fun _ => b_lss) rfl) rfl rfl ?_
  refine s_end ?_
  refine v_cond (e rfl rfl) (fun hb1 => ?_) fun hb1 => ?_
  · refine v_seq ?_
    refine v_reg ?_
    refine sy _ (zas rfl (ec rfl)) rfl rfl ?_
    refine s_end ?_
    refine v_ret ?_
    exact post_retX [one (dI (-1))] ⟨-1, fun h => by omega, rfl⟩ (rv (.tmp (eg rfl rfl)) rfl (.lf .nil) rfl .nil) (.ro (.ro .nil)) rfl
  have p2 : 0 ≤ left - ((xs.map Job.cells).length : Int) := by have := hb1; simp at this; omega
  refine v_skip ?_
  refine v_seq ?_
  refine v_seq ?_
  refine v_reg ?_
  refine sy _ (zas rfl (ec rfl)) rfl rfl ?_
  refine s_end ?_
  refine v_block ?_
  refine v_lp (fun (q : Nat × Int) => [(0, .t ⟨false, [.d (.sl 7 (xs.map Job.cells))]⟩), (1, .t ⟨false, [.d (dI (q.2))]⟩), (5, .t ⟨false, [.d (dI (q.1 : Int))]⟩)]) (fun _ => []) (fun q => q.1 ≤ xs.length ∧ 0 ≤ q.2 ∧ q.2 + (wtTo Job.wt xs q.1 : Int) + xs.length ≤ left ∧ allTo Job.Fit xs q.1) (fun q => xs.length - q.1) (0, left - ((xs.map Job.cells).length : Int)) ⟨Nat.zero_le _, by simp only; omega, by simp only [wtTo, List.take_zero, List.map_nil, List.sum_nil]; omega, allTo_zero⟩ ⟨rfl, rfl, rfl, trivial⟩ trivial rfl (fun q hi => ?_)
  obtain ⟨i, lf⟩ := q
  have hi0 := hi.1; have hi1 := hi.2.1; have hi2 := hi.2.2.1
  simp only at hi0 hi1 hi2
  refine v_seq ?_
  refine v_seq ?_
  refine v_reg ?_
  refine sy _ (zmv rfl (e rfl rfl)) rfl rfl ?_
  refine sy _ (zmv rfl (e rfl rfl)) rfl rfl ?_
  refine sy (.t ⟨false, [.d (dI ((xs.map Job.cells).length : Int))]⟩) (zln tabOk rfl rfl (e rfl rfl) .d) rfl rfl ?_
  refine sy (.t ⟨false, [.d (dB (decide (((i : Int)) < (((xs.map Job.cells).length : Int)))))]⟩) (y_bin rfl (e rfl rfl) (e rfl rfl) (fun _ => b_lss) rfl) rfl rfl ?_
  refine s_end ?_
  refine v_cond (e rfl rfl) (fun hb3 => ?_) fun hb3 => ?_
  · have hlt : i < xs.length := by have := hb3; simp at this; omega
    obtain ⟨x, hxi⟩ := some_of_lt hlt
    have hbx := hb.2 _ (List.mem_of_getElem? hxi)
    refine v_skip ?_
    refine v_seq ?_
    refine v_block ?_
    refine v_seq ?_
    refine v_reg ?_
    refine sy _ (zmv rfl (e rfl rfl)) rfl rfl ?_
    refine sy _ (zmv rfl (e rfl rfl)) rfl rfl ?_
    refine sy (.t ⟨false, [.fe 7 (xs.map Job.cells) i 0]⟩) (zix tabOk rfl rfl rfl (e rfl rfl) (e rfl rfl) (ltm_of_some hxi)) rfl rfl ?_
    refine sy (.t ⟨true, [.d (dI (x.No)), .d (dI (x.Client)), .d (dS (x.Ask.Name)), .d (dI (x.Ask.Typ)), .d (dI (x.Sent)), .d (dI (x.Fetched)), .d (.sl 15 (x.Stack.map Frame.cells))]⟩) (zle tabOk rfl (e rfl rfl) (getm hxi) rfl rfl) rfl rfl ?_
    refine sy _ (zmv rfl (e rfl rfl)) rfl rfl ?_
    refine sxI (zcallX rfl (tr_szJob x hbx lf (by omega) (by omega)) (ar (e rfl rfl) (.d (.d (.d (.d (.d (.d (.d .nil))))))) (ar (e rfl rfl) (.d .nil) .nil))) rfl rfl (fun r4 hr4 => ?_)
    refine sy _ (zas rfl (e rfl rfl)) rfl rfl ?_
    refine s_end ?_
    refine v_seq ?_
    refine v_reg ?_
    refine sy _ (zmv rfl (e rfl rfl)) rfl rfl ?_
    refine sy (.t ⟨false, [.d (dB (decide ((r4) < (0))))]⟩) (y_bin rfl (e rfl rfl) (ec rfl) (fun _ => b_lss) rfl) rfl rfl ?_
    refine s_end ?_
    refine v_cond (e rfl rfl) (fun hb5 => ?_) fun hb5 => ?_
    · refine v_seq ?_
      refine v_reg ?_
      refine sy _ (zas rfl (ec rfl)) rfl rfl ?_
      refine s_end ?_
      refine v_ret ?_
      exact post_retX [one (dI (-1))] ⟨-1, fun h => by omega, rfl⟩ (rv (.tmp (eg rfl rfl)) rfl (.lf .nil) rfl .nil) (.ro (.ro .nil)) rfl
    have p6 : 0 ≤ r4 := by have := hb5; simp at this; omega
    refine v_skip ?_
    refine blk_norm ?_
    refine v_reg ?_
    refine sy _ (zmv rfl (e rfl rfl)) rfl rfl ?_
    refine sy (.t ⟨false, [.d (dI ((i : Int) + 1))]⟩) (y_bin rfl (e rfl rfl) (ec rfl) (fun _ => b_addn (by omega) (by omega)) rfl) rfl rfl ?_
    refine sy _ (zas rfl (e rfl rfl)) rfl rfl ?_
    refine s_end ?_
    have e1 := wtTo_succ (f := Job.wt) hxi
    have e2 := hr4 p6
    have e3 := e2.1
    exact lp_next (i + 1, r4) ⟨hlt, by simp only; omega, by simp only; omega, allTo_succ hxi hi.2.2.2 e2.2⟩ (by simp only; omega) ⟨rfl, rfl, rfl, trivial⟩ trivial rfl
  have hend : i = xs.length := by have := hb3; simp at this; omega
  refine v_exit ?_
  refine then_exit ?_
  refine loop_exit ?_
  refine blk_hit ?_
  refine v_seq ?_
  refine v_reg ?_
  refine sy _ (zmv rfl (e rfl rfl)) rfl rfl ?_
  refine sy _ (zas rfl (e rfl rfl)) rfl rfl ?_
  refine s_end ?_
  refine v_ret ?_
  have e1 := wtTo_end (f := Job.wt) hend
  exact post_retX [one (dI (lf))] ⟨lf, fun h => ⟨by rw [e1]; omega, ⟨by omega, allTo_end hend hi.2.2.2⟩⟩, rfl⟩ (rv (.tmp (eg rfl rfl)) rfl (.lf .nil) rfl .nil) (.ro (.ro .nil)) rfl
set_option maxRecDepth 20000 in
theorem tr_toJobS (xs : List Job) (hx : fitL Job.Fit xs) : Tr Try.prog 58 [.ro ⟨false, [.sl 7 (xs.map Job.cells)]⟩] [⟨false, [.sl 7 (xs.map Job.cells)]⟩] := by
  refine tr_go tabOk Try.func58 rfl rfl rfl rfl rfl (ov := [(0, .t ⟨false, [.d (.sl 7 (xs.map Job.cells))]⟩)]) (hv := []) rfl rfl ?_
  refine v_seq ?_
  refine v_reg ?_
  refine sy _ (zas rfl (en 7)) rfl rfl ?_
  refine s_end ?_
  refine v_seq ?_
  refine v_reg ?_
  refine sy _ (zmv rfl (e rfl rfl)) rfl rfl ?_
  refine sy (.t ⟨false, [.d (dI ((xs.map Job.cells).length : Int))]⟩) (zln tabOk rfl rfl (e rfl rfl) .d) rfl rfl ?_
  refine sr 0 (.t ⟨false, [.sr 0 1 0 ((xs.map Job.cells).length) ((xs.map Job.cells).length)]⟩) (.row 7 (List.replicate ((xs.map Job.cells).length) [dI (0), dI (0), dS (⟨#[]⟩), dI (0), dI (0), dI (0), .sl 15 ([])]) true 1 0) (zmk tabOk rfl rfl rfl (e rfl rfl) (e rfl rfl) (Nat.le_refl _) (mkok hx.1 rfl) rfl rfl) rfl rfl ?_
  refine sy _ (zas rfl (e rfl rfl)) rfl rfl ?_
  refine s_end ?_
  refine v_seq ?_
  refine v_seq ?_
  refine v_reg ?_
  refine sy _ (zas rfl (ec rfl)) rfl rfl ?_
  refine s_end ?_
  refine v_block ?_
  have hB := hx.1
  refine v_lp (fun (i : Nat) => [(0, .t ⟨false, [.d (.sl 7 (xs.map Job.cells))]⟩), (3, .t ⟨false, [.sr 0 1 0 ((xs.map Job.cells).length) ((xs.map Job.cells).length)]⟩), (4, .t ⟨false, [.d (dI (i : Int))]⟩)]) (fun i => [(0, .row 7 (fill Job.cells xs [dI (0), dI (0), dS (⟨#[]⟩), dI (0), dI (0), dI (0), .sl 15 ([])] i) true 1 i)]) (fun i => i ≤ xs.length) (fun i => xs.length - i) 0 (Nat.zero_le _) ⟨rfl, rfl, rfl, trivial⟩ ⟨congrArg (fun l => VO.row 7 l true 1 0) fill0, trivial⟩ rfl (fun i hi => ?_)
  refine v_seq ?_
  refine v_seq ?_
  refine v_reg ?_
  refine sy _ (zmv rfl (e rfl rfl)) rfl rfl ?_
  refine sy _ (zmv rfl (e rfl rfl)) rfl rfl ?_
  refine sy (.t ⟨false, [.d (dI ((xs.map Job.cells).length : Int))]⟩) (zln tabOk rfl rfl (e rfl rfl) .d) rfl rfl ?_
  refine sy (.t ⟨false, [.d (dB (decide (((i : Int)) < (((xs.map Job.cells).length : Int)))))]⟩) (y_bin rfl (e rfl rfl) (e rfl rfl) (fun _ => b_lss) rfl) rfl rfl ?_
  refine s_end ?_
  refine v_cond (e rfl rfl) (fun hb1 => ?_) fun hb1 => ?_
  · have hlt : i < xs.length := by have := hb1; simp at this; omega
    obtain ⟨x, hxi⟩ := some_of_lt hlt
    refine v_skip ?_
    refine v_seq ?_
    refine v_block ?_
    refine v_reg ?_
    refine sy _ (zmv rfl (e rfl rfl)) rfl rfl ?_
    refine sy _ (zmv rfl (e rfl rfl)) rfl rfl ?_
    refine sy _ (zmv rfl (e rfl rfl)) rfl rfl ?_
    refine sy _ (zmv rfl (e rfl rfl)) rfl rfl ?_
    refine sy (.t ⟨false, [.fe 7 (xs.map Job.cells) i 0]⟩) (zix tabOk rfl rfl rfl (e rfl rfl) (e rfl rfl) (ltm_of_some hxi)) rfl rfl ?_
    refine sy (.t ⟨true, [.d (dI (x.No)), .d (dI (x.Client)), .d (dS (x.Ask.Name)), .d (dI (x.Ask.Typ)), .d (dI (x.Sent)), .d (dI (x.Fetched)), .d (.sl 15 (x.Stack.map Frame.cells))]⟩) (zle tabOk rfl (e rfl rfl) (getm hxi) rfl rfl) rfl rfl ?_
    refine sd (.t ⟨true, [.d (dI (x.No)), .d (dI (x.Client)), .d (dS (x.Ask.Name)), .d (dI (x.Ask.Typ)), .d (dI (x.Sent)), .d (dI (x.Fetched)), .sr 1 1 0 ((x.Stack.map Frame.cells).length) ((x.Stack.map Frame.cells).length)]⟩) (zcall 1 (.t ⟨true, [.d (dI (x.No)), .d (dI (x.Client)), .d (dS (x.Ask.Name)), .d (dI (x.Ask.Typ)), .d (dI (x.Sent)), .d (dI (x.Fetched)), .sr 1 1 0 ((x.Stack.map Frame.cells).length) ((x.Stack.map Frame.cells).length)]⟩) [(1, .row 15 (x.Stack.map Frame.cells) true 1 0)] rfl (tr_toJob x ((hx.2 _ (List.mem_of_getElem? hxi)))) (ar (e rfl rfl) (.d (.d (.d (.d (.d (.d (.d .nil))))))) .nil) rfl rfl rfl) rfl rfl rfl rfl ?_
    refine sy (.t ⟨false, [.ep 0 1 i 0]⟩) (zis tabOk rfl rfl rfl (e rfl rfl) rfl (e rfl rfl) (ltm_of_some hxi) (Nat.zero_add _)) rfl rfl ?_
    refine swk 0 (.row 7 (fill Job.cells xs [dI (0), dI (0), dS (⟨#[]⟩), dI (0), dI (0), dI (0), .sl 15 ([])] (i + 1)) true 1 (i + 1)) (zsg tabOk rfl (e rfl rfl) rfl (fill_get hxi) (e rfl rfl) rfl (.lf (.lf (.lf (.lf (.lf (.lf (.sr rfl le_all take_all .nil))))))) rfl rfl (fill_set (f := Job.cells) hxi)) rfl rfl ?_
    refine s_end ?_
    refine blk_norm ?_
    refine v_reg ?_
    refine sy _ (zmv rfl (e rfl rfl)) rfl rfl ?_
    refine sy (.t ⟨false, [.d (dI ((i : Int) + 1))]⟩) (y_bin rfl (e rfl rfl) (ec rfl) (fun _ => b_addn (by omega) (by omega)) rfl) rfl rfl ?_
    refine sy _ (zas rfl (e rfl rfl)) rfl rfl ?_
    refine s_end ?_
    exact lp_next (i + 1) hlt (by omega) ⟨rfl, rfl, rfl, trivial⟩ ⟨rfl, trivial⟩ rfl
  have hend : i = xs.length := by have := hb1; simp at this; omega
  refine v_exit ?_
  refine then_exit ?_
  refine loop_exit ?_
  refine blk_hit ?_
  refine v_seq ?_
  refine v_reg ?_
  refine sy _ (zmv rfl (e rfl rfl)) rfl rfl ?_
  refine sy _ (zas rfl (e rfl rfl)) rfl rfl ?_
  refine s_end ?_
  refine v_ret ?_
  exact post_ret (rv (.tmp (eg rfl rfl)) rfl (.sr rfl (fill_le hend) (fill_end hend) .nil) rfl .nil) (.ro .nil) rfl
set_option maxRecDepth 20000 in
theorem tr_eqJobS (xs ys : List Job) (hx : fitL Job.Fit xs) (hy : fitL Job.Fit ys) : Tr Try.prog 36 [.ro ⟨false, [.sl 7 (xs.map Job.cells)]⟩, .ro ⟨false, [.sl 7 (ys.map Job.cells)]⟩] [one (dB (decide (xs = ys)))] := by
  refine tr_go tabOk Try.func36 rfl rfl rfl rfl rfl (ov := [(0, .t ⟨false, [.d (.sl 7 (xs.map Job.cells))]⟩), (1, .t ⟨false, [.d (.sl 7 (ys.map Job.cells))]⟩)]) (hv := []) rfl rfl ?_
  refine v_seq ?_
  refine v_reg ?_
  refine sy _ (zas rfl (ec rfl)) rfl rfl ?_
  refine s_end ?_
  refine v_seq ?_
  refine v_seq ?_
  refine v_reg ?_
  refine sy _ (zmv rfl (e rfl rfl)) rfl rfl ?_
  refine sy (.t ⟨false, [.d (dI ((xs.map Job.cells).length : Int))]⟩) (zln tabOk rfl rfl (e rfl rfl) .d) rfl rfl ?_
  refine sy _ (zmv rfl (e rfl rfl)) rfl rfl ?_
  refine sy (.t ⟨false, [.d (dI ((ys.map Job.cells).length : Int))]⟩) (zln tabOk rfl rfl (e rfl rfl) .d) rfl rfl ?_
  refine sy (.t ⟨false, [.d (dB (decide ((((xs.map Job.cells).length : Int)) ≠ (((ys.map Job.cells).length : Int)))))]⟩) (y_bin rfl (e rfl rfl) (e rfl rfl) (fun _ => b_neq) rfl) rfl rfl ?_
  refine s_end ?_
  refine v_cond (e rfl rfl) (fun hb1 => ?_) fun hb1 => ?_
  · refine v_seq ?_
    refine v_reg ?_
    refine sy _ (zas rfl (ec rfl)) rfl rfl ?_
    refine s_end ?_
    refine v_ret ?_
    have hr : decide (xs = ys) = false := by simp at hb1 ⊢; intro h; subst h; exact hb1 rfl
    rw [hr]
    exact post_ret (rv (.tmp (eg rfl rfl)) rfl (.lf .nil) rfl .nil) (.ro (.ro .nil)) rfl
  have hlen : xs.length = ys.length := by have := hb1; simp at this; omega
  refine v_skip ?_
  refine v_seq ?_
  refine v_seq ?_
  refine v_reg ?_
  refine sy _ (zas rfl (ec rfl)) rfl rfl ?_
  refine s_end ?_
  refine v_block ?_
  have hB := hx.1
  refine v_lp (fun (i : Nat) => [(0, .t ⟨false, [.d (.sl 7 (xs.map Job.cells))]⟩), (1, .t ⟨false, [.d (.sl 7 (ys.map Job.cells))]⟩), (5, .t ⟨false, [.d (dI (i : Int))]⟩)]) (fun _ => []) (fun i => i ≤ xs.length ∧ xs.take i = ys.take i) (fun i => xs.length - i) 0 ⟨Nat.zero_le _, rfl⟩ ⟨rfl, rfl, rfl, trivial⟩ trivial rfl (fun i hi => ?_)
  refine v_seq ?_
  refine v_seq ?_
  refine v_reg ?_
  refine sy _ (zmv rfl (e rfl rfl)) rfl rfl ?_
  refine sy _ (zmv rfl (e rfl rfl)) rfl rfl ?_
  refine sy (.t ⟨false, [.d (dI ((xs.map Job.cells).length : Int))]⟩) (zln tabOk rfl rfl (e rfl rfl) .d) rfl rfl ?_
  refine sy (.t ⟨false, [.d (dB (decide (((i : Int)) < (((xs.map Job.cells).length : Int)))))]⟩) (y_bin rfl (e rfl rfl) (e rfl rfl) (fun _ => b_lss) rfl) rfl rfl ?_
  refine s_end ?_
  refine v_cond (e rfl rfl) (fun hb2 => ?_) fun hb2 => ?_
  · have hlt : i < xs.length := by simpa using hb2
    obtain ⟨x, hxi⟩ := some_of_lt hlt
    obtain ⟨y, hyi⟩ := some_of_lt (l := ys) (i := i) (by omega)
    refine v_skip ?_
    refine v_seq ?_
    refine v_block ?_
    refine v_seq ?_
    refine v_drw [⟨.t ⟨false, [.d (.sl 7 (xs.map Job.cells))]⟩, [], [0], [], false⟩, ⟨.t ⟨false, [.d (dI (i : Int))]⟩, [], [5], [], false⟩, ⟨.t ⟨false, [.fe 7 (xs.map Job.cells) i 0]⟩, [], [17, 18], [], false⟩, ⟨.t ⟨true, [.d (dI (x.No)), .d (dI (x.Client)), .d (dS (x.Ask.Name)), .d (dI (x.Ask.Typ)), .d (dI (x.Sent)), .d (dI (x.Fetched)), .d (.sl 15 (x.Stack.map Frame.cells))]⟩, [], [19], [], false⟩, ⟨.t ⟨false, [.d (.sl 7 (ys.map Job.cells))]⟩, [], [1], [], false⟩, ⟨.t ⟨false, [.d (dI (i : Int))]⟩, [], [5], [], false⟩, ⟨.t ⟨false, [.fe 7 (ys.map Job.cells) i 0]⟩, [], [21, 22], [], false⟩, ⟨.t ⟨true, [.d (dI (y.No)), .d (dI (y.Client)), .d (dS (y.Ask.Name)), .d (dI (y.Ask.Typ)), .d (dI (y.Sent)), .d (dI (y.Fetched)), .d (.sl 15 (y.Stack.map Frame.cells))]⟩, [], [23], [], false⟩, ⟨.t ⟨false, [.d (dB (decide (x = y)))]⟩, [], [20, 24], [], false⟩, ⟨.t ⟨false, [.d (dB (!(decide (x = y))))]⟩, [], [25], [], false⟩] mixed rfl rfl rfl rfl ⟨gN rfl rfl (fun t h A => dy (zmv rfl (A.e rfl rfl rfl))), gN rfl rfl (fun t h A => dy (zmv rfl (A.e rfl rfl rfl))), gN rfl rfl (fun t h A => dy (zix tabOk rfl rfl rfl (A.e rfl rfl rfl) (A.e rfl rfl rfl) (ltm_of_some hxi))), gN rfl rfl (fun t h A => dy (zle tabOk rfl (A.e rfl rfl rfl) (getm hxi) rfl rfl)), gN rfl rfl (fun t h A => dy (zmv rfl (A.e rfl rfl rfl))), gN rfl rfl (fun t h A => dy (zmv rfl (A.e rfl rfl rfl))), gN rfl rfl (fun t h A => dy (zix tabOk rfl rfl rfl (A.e rfl rfl rfl) (A.e rfl rfl rfl) (ltm_of_some hyi))), gN rfl rfl (fun t h A => dy (zle tabOk rfl (A.e rfl rfl rfl) (getm hyi) rfl rfl)), gN rfl rfl (fun t h A => zcallA 0 (.t ⟨false, [.d (dB (decide (x = y)))]⟩) [] rfl (tr_eqJob x y ((hx.2 _ (List.mem_of_getElem? hxi))) ((hy.2 _ (List.mem_of_getElem? hyi)))) (ar (A.e rfl rfl rfl) (.d (.d (.d (.d (.d (.d (.d .nil))))))) (ar (A.e rfl rfl rfl) (.d (.d (.d (.d (.d (.d (.d .nil))))))) .nil)) rfl (free0 rfl) rfl rfl), gN rfl rfl (fun t h A => dy (y_un rfl (A.e rfl rfl rfl) (fun _ => u_not) rfl)), trivial⟩ ?_
    refine s_end ?_
    refine v_cond (e rfl rfl) (fun hb3 => ?_) fun hb3 => ?_
    · refine v_seq ?_
      refine v_reg ?_
      refine sy _ (zas rfl (ec rfl)) rfl rfl ?_
      refine s_end ?_
      refine v_ret ?_
      have hr : decide (xs = ys) = false := by
        have hne : x ≠ y := by have := hb3; simpa using this
        simp only [decide_eq_false_iff_not]; intro h; subst h; rw [hxi] at hyi; injection hyi with hyi; exact hne hyi
      rw [hr]
      exact post_ret (rv (.tmp (eg rfl rfl)) rfl (.lf .nil) rfl .nil) (.ro (.ro .nil)) rfl
    refine v_skip ?_
    refine blk_norm ?_
    refine v_reg ?_
    refine sy _ (zmv rfl (e rfl rfl)) rfl rfl ?_
    refine sy (.t ⟨false, [.d (dI ((i : Int) + 1))]⟩) (y_bin rfl (e rfl rfl) (ec rfl) (fun _ => b_addn (by omega) (by omega)) rfl) rfl rfl ?_
    refine sy _ (zas rfl (e rfl rfl)) rfl rfl ?_
    refine s_end ?_
    have hxy : x = y := by have := hb3; simpa using this
    subst hxy
    exact lp_next (i + 1) ⟨hlt, by rw [List.take_add_one, List.take_add_one, hi.2, hxi, hyi]⟩ (by omega) ⟨rfl, rfl, rfl, trivial⟩ trivial rfl
  refine v_exit ?_
  refine then_exit ?_
  refine loop_exit ?_
  refine blk_hit ?_
  refine v_seq ?_
  refine v_reg ?_
  refine sy _ (zas rfl (ec rfl)) rfl rfl ?_
  refine s_end ?_
  refine v_ret ?_
  have hr : decide (xs = ys) = true := by
    have : i = xs.length := by have := hb2; simp at this; omega
    subst this
    have h5 := hi.2; rw [List.take_length, hlen, List.take_length] at h5; simpa using h5
  rw [hr]
  exact post_ret (rv (.tmp (eg rfl rfl)) rfl (.lf .nil) rfl .nil) (.ro (.ro .nil)) rfl
set_option maxRecDepth 20000 in
theorem tr_markJobS (xs : List Job) (hx : fitL Job.Fit xs) (k : Int) (hk : k < 9223372036854775808) : Tr Try.prog 41 [.mu (one (.sl 7 (xs.map Job.cells))) (one (.sl 7 ((mkL mkJob xs k).1.map Job.cells))), .ro (one (dI k))] [one (dI (mkL mkJob xs k).2)] := by
  refine tr_go tabOk Try.func41 rfl rfl rfl rfl rfl (ov := [(0, .t ⟨false, [.sr 0 0 0 ((xs.map Job.cells).length) ((xs.map Job.cells).length)]⟩), (1, .t ⟨false, [.d (dI (k))]⟩)]) (hv := [(0, .row 7 (xs.map Job.cells) true 0 0)]) rfl rfl ?_
  refine v_seq ?_
  refine v_reg ?_
  refine sy _ (zas rfl (ec rfl)) rfl rfl ?_
  refine s_end ?_
  refine v_seq ?_
  refine v_seq ?_
  refine v_reg ?_
  refine sy _ (zas rfl (ec rfl)) rfl rfl ?_
  refine s_end ?_
  refine v_block ?_
  have hB := hx.1
  refine v_lp (fun (i : Nat) => [(0, .t ⟨false, [.sr 0 0 0 ((xs.map Job.cells).length) ((xs.map Job.cells).length)]⟩), (1, .t ⟨false, [.d (dI (kTo mkJob xs k i))]⟩), (5, .t ⟨false, [.d (dI (i : Int))]⟩)]) (fun i => [(0, .row 7 ((mkTo mkJob xs k i).map Job.cells) true 0 0)]) (fun i => i ≤ xs.length) (fun i => xs.length - i) 0 (Nat.zero_le _) ⟨rfl, congrArg (fun v => sc (dI v)) kTo_zero.symm, rfl, trivial⟩ ⟨congrArg (fun l => VO.row 7 (List.map Job.cells l) true 0 0) mkTo_zero.symm, trivial⟩ rfl (fun i hi => ?_)
  refine v_seq ?_
  refine v_seq ?_
  refine v_reg ?_
  refine sy _ (zmv rfl (e rfl rfl)) rfl rfl ?_
  refine sy _ (zmv rfl (e rfl rfl)) rfl rfl ?_
  refine sy (.t ⟨false, [.d (dI ((xs.map Job.cells).length : Int))]⟩) (zln tabOk rfl rfl (e rfl rfl) (.sr (dp := 0) rfl)) rfl rfl ?_
  refine sy (.t ⟨false, [.d (dB (decide (((i : Int)) < (((xs.map Job.cells).length : Int)))))]⟩) (y_bin rfl (e rfl rfl) (e rfl rfl) (fun _ => b_lss) rfl) rfl rfl ?_
  refine s_end ?_
  refine v_cond (e rfl rfl) (fun hb1 => ?_) fun hb1 => ?_
  · have hlt : i < xs.length := by have := hb1; simp at this; omega
    obtain ⟨x, hxi⟩ := some_of_lt hlt
    have hkl : kTo mkJob xs k i < 9223372036854775808 := kTo_lt mkJob_lt hk
    generalize hk0 : kTo mkJob xs k i = k0
    rw [hk0] at hkl
    refine v_skip ?_
    refine v_seq ?_
    refine v_block ?_
    refine v_seq ?_
    refine v_reg ?_
    refine sy _ (zmv rfl (e rfl rfl)) rfl rfl ?_
    refine sy _ (zmv rfl (e rfl rfl)) rfl rfl ?_
    refine sy _ (zmv rfl (e rfl rfl)) rfl rfl ?_
    refine sy (.t ⟨false, [.ep 0 0 i 0]⟩) (zis tabOk rfl rfl rfl (e rfl rfl) rfl (e rfl rfl) (ltm_of_some hxi) (Nat.zero_add _)) rfl rfl ?_
    refine sy (.t ⟨false, [.ep 0 0 i 0]⟩) (zfa tabOk rfl rfl rfl (e rfl rfl) rfl rfl) rfl rfl ?_
    refine sw 0 (.row 7 (((mkTo mkJob xs k i).map Job.cells).set i [dI (k0), dI (x.Client), dS (x.Ask.Name), dI (x.Ask.Typ), dI (x.Sent), dI (x.Fetched), .sl 15 (x.Stack.map Frame.cells)]) true 0 0) (zsr0 tabOk rfl (e rfl rfl) rfl (mkTo_get hxi) (e rfl rfl) rfl (.lf .nil) rfl rfl rfl) rfl rfl ?_
    refine s_end ?_
    refine v_seq ?_
    refine v_reg ?_
    refine sy _ (zmv rfl (e rfl rfl)) rfl rfl ?_
    refine sy (.t ⟨false, [.d (dI (nx k0))]⟩) (y_bin rfl (e rfl rfl) (ec rfl) (fun _ => b_nx) rfl) rfl rfl ?_
    refine sy _ (zas rfl (e rfl rfl)) rfl rfl ?_
    have hl1 : nx k0 < 9223372036854775808 := nx_lt _
    generalize hk1 : nx k0 = k1 at hl1 ⊢
    refine s_end ?_
    refine v_seq ?_
    refine v_reg ?_
    refine sy _ (zmv rfl (e rfl rfl)) rfl rfl ?_
    refine sy _ (zmv rfl (e rfl rfl)) rfl rfl ?_
    refine sy _ (zmv rfl (e rfl rfl)) rfl rfl ?_
    refine sy (.t ⟨false, [.ep 0 0 i 0]⟩) (zis tabOk rfl rfl rfl (e rfl rfl) rfl (e rfl rfl) (ltm_of_some hxi) (Nat.zero_add _)) rfl rfl ?_
    refine sy (.t ⟨false, [.ep 0 0 i 1]⟩) (zfa tabOk rfl rfl rfl (e rfl rfl) rfl rfl) rfl rfl ?_
    refine sw 0 (.row 7 (((mkTo mkJob xs k i).map Job.cells).set i [dI (k0), dI (k1), dS (x.Ask.Name), dI (x.Ask.Typ), dI (x.Sent), dI (x.Fetched), .sl 15 (x.Stack.map Frame.cells)]) true 0 0) (zsr0 tabOk rfl (e rfl rfl) rfl (set_get (mkTo_lt hxi)) (e rfl rfl) rfl (.lf .nil) rfl rfl (List.set_set _)) rfl rfl ?_
    refine s_end ?_
    refine v_seq ?_
    refine v_reg ?_
    refine sy _ (zmv rfl (e rfl rfl)) rfl rfl ?_
    refine sy (.t ⟨false, [.d (dI (nx k1))]⟩) (y_bin rfl (e rfl rfl) (ec rfl) (fun _ => b_nx) rfl) rfl rfl ?_
    refine sy _ (zas rfl (e rfl rfl)) rfl rfl ?_
    have hl2 : nx k1 < 9223372036854775808 := nx_lt _
    generalize hk2 : nx k1 = k2 at hl2 ⊢
    refine s_end ?_
    refine v_seq ?_
    refine v_reg ?_
    refine sy _ (zmv rfl (e rfl rfl)) rfl rfl ?_
    refine sy _ (zmv rfl (e rfl rfl)) rfl rfl ?_
    refine sy _ (zmv rfl (e rfl rfl)) rfl rfl ?_
    refine sd (.t ⟨false, [.d (dS (mt k2))]⟩) (zcall 1 (sc (dS (mt k2))) [] rfl (tr_markText k2 hl2) (ar (e rfl rfl) (.d .nil) .nil) rfl rfl rfl) rfl rfl rfl rfl ?_
    refine sy (.t ⟨false, [.ep 0 0 i 0]⟩) (zis tabOk rfl rfl rfl (e rfl rfl) rfl (e rfl rfl) (ltm_of_some hxi) (Nat.zero_add _)) rfl rfl ?_
    refine sy (.t ⟨false, [.ep 0 0 i 2]⟩) (zfa tabOk rfl rfl rfl (e rfl rfl) rfl rfl) rfl rfl ?_
    refine sy (.t ⟨false, [.ep 0 0 i 2]⟩) (zfa tabOk rfl rfl rfl (e rfl rfl) rfl rfl) rfl rfl ?_
    refine sw 0 (.row 7 (((mkTo mkJob xs k i).map Job.cells).set i [dI (k0), dI (k1), dS (mt k2), dI (x.Ask.Typ), dI (x.Sent), dI (x.Fetched), .sl 15 (x.Stack.map Frame.cells)]) true 0 0) (zsr0 tabOk rfl (e rfl rfl) rfl (set_get (mkTo_lt hxi)) (e rfl rfl) rfl (.lf .nil) rfl rfl (List.set_set _)) rfl rfl ?_
    refine s_end ?_
    refine v_seq ?_
    refine v_reg ?_
    refine sy _ (zmv rfl (e rfl rfl)) rfl rfl ?_
    refine sy (.t ⟨false, [.d (dI (nx k2))]⟩) (y_bin rfl (e rfl rfl) (ec rfl) (fun _ => b_nx) rfl) rfl rfl ?_
    refine sy _ (zas rfl (e rfl rfl)) rfl rfl ?_
    have hl3 : nx k2 < 9223372036854775808 := nx_lt _
    generalize hk3 : nx k2 = k3 at hl3 ⊢
    refine s_end ?_
    refine v_seq ?_
    refine v_reg ?_
    refine sy _ (zmv rfl (e rfl rfl)) rfl rfl ?_
    refine sy _ (zmv rfl (e rfl rfl)) rfl rfl ?_
    refine sy _ (zmv rfl (e rfl rfl)) rfl rfl ?_
    refine sy (.t ⟨false, [.ep 0 0 i 0]⟩) (zis tabOk rfl rfl rfl (e rfl rfl) rfl (e rfl rfl) (ltm_of_some hxi) (Nat.zero_add _)) rfl rfl ?_
    refine sy (.t ⟨false, [.ep 0 0 i 2]⟩) (zfa tabOk rfl rfl rfl (e rfl rfl) rfl rfl) rfl rfl ?_
    refine sy (.t ⟨false, [.ep 0 0 i 3]⟩) (zfa tabOk rfl rfl rfl (e rfl rfl) rfl rfl) rfl rfl ?_
    refine sw 0 (.row 7 (((mkTo mkJob xs k i).map Job.cells).set i [dI (k0), dI (k1), dS (mt k2), dI (k3), dI (x.Sent), dI (x.Fetched), .sl 15 (x.Stack.map Frame.cells)]) true 0 0) (zsr0 tabOk rfl (e rfl rfl) rfl (set_get (mkTo_lt hxi)) (e rfl rfl) rfl (.lf .nil) rfl rfl (List.set_set _)) rfl rfl ?_
    refine s_end ?_
    refine v_seq ?_
    refine v_reg ?_
    refine sy _ (zmv rfl (e rfl rfl)) rfl rfl ?_
    refine sy (.t ⟨false, [.d (dI (nx k3))]⟩) (y_bin rfl (e rfl rfl) (ec rfl) (fun _ => b_nx) rfl) rfl rfl ?_
    refine sy _ (zas rfl (e rfl rfl)) rfl rfl ?_
    have hl4 : nx k3 < 9223372036854775808 := nx_lt _
    generalize hk4 : nx k3 = k4 at hl4 ⊢
    refine s_end ?_
    refine v_seq ?_
    refine v_reg ?_
    refine sy _ (zmv rfl (e rfl rfl)) rfl rfl ?_
    refine sy _ (zmv rfl (e rfl rfl)) rfl rfl ?_
    refine sy _ (zmv rfl (e rfl rfl)) rfl rfl ?_
    refine sy (.t ⟨false, [.ep 0 0 i 0]⟩) (zis tabOk rfl rfl rfl (e rfl rfl) rfl (e rfl rfl) (ltm_of_some hxi) (Nat.zero_add _)) rfl rfl ?_
    refine sy (.t ⟨false, [.ep 0 0 i 4]⟩) (zfa tabOk rfl rfl rfl (e rfl rfl) rfl rfl) rfl rfl ?_
    refine sw 0 (.row 7 (((mkTo mkJob xs k i).map Job.cells).set i [dI (k0), dI (k1), dS (mt k2), dI (k3), dI (k4), dI (x.Fetched), .sl 15 (x.Stack.map Frame.cells)]) true 0 0) (zsr0 tabOk rfl (e rfl rfl) rfl (set_get (mkTo_lt hxi)) (e rfl rfl) rfl (.lf .nil) rfl rfl (List.set_set _)) rfl rfl ?_
    refine s_end ?_
    refine v_seq ?_
    refine v_reg ?_
    refine sy _ (zmv rfl (e rfl rfl)) rfl rfl ?_
    refine sy (.t ⟨false, [.d (dI (nx k4))]⟩) (y_bin rfl (e rfl rfl) (ec rfl) (fun _ => b_nx) rfl) rfl rfl ?_
    refine sy _ (zas rfl (e rfl rfl)) rfl rfl ?_
    have hl5 : nx k4 < 9223372036854775808 := nx_lt _
    generalize hk5 : nx k4 = k5 at hl5 ⊢
    refine s_end ?_
    refine v_seq ?_
    refine v_reg ?_
    refine sy _ (zmv rfl (e rfl rfl)) rfl rfl ?_
    refine sy _ (zmv rfl (e rfl rfl)) rfl rfl ?_
    refine sy _ (zmv rfl (e rfl rfl)) rfl rfl ?_
    refine sy (.t ⟨false, [.ep 0 0 i 0]⟩) (zis tabOk rfl rfl rfl (e rfl rfl) rfl (e rfl rfl) (ltm_of_some hxi) (Nat.zero_add _)) rfl rfl ?_
    refine sy (.t ⟨false, [.ep 0 0 i 5]⟩) (zfa tabOk rfl rfl rfl (e rfl rfl) rfl rfl) rfl rfl ?_
    refine sw 0 (.row 7 (((mkTo mkJob xs k i).map Job.cells).set i [dI (k0), dI (k1), dS (mt k2), dI (k3), dI (k4), dI (k5), .sl 15 (x.Stack.map Frame.cells)]) true 0 0) (zsr0 tabOk rfl (e rfl rfl) rfl (set_get (mkTo_lt hxi)) (e rfl rfl) rfl (.lf .nil) rfl rfl (List.set_set _)) rfl rfl ?_
    refine s_end ?_
    refine v_seq ?_
    refine v_reg ?_
    refine sy _ (zmv rfl (e rfl rfl)) rfl rfl ?_
    refine sy (.t ⟨false, [.d (dI (nx k5))]⟩) (y_bin rfl (e rfl rfl) (ec rfl) (fun _ => b_nx) rfl) rfl rfl ?_
    refine sy _ (zas rfl (e rfl rfl)) rfl rfl ?_
    have hl6 : nx k5 < 9223372036854775808 := nx_lt _
    generalize hk6 : nx k5 = k6 at hl6 ⊢
    refine s_end ?_
    refine v_reg ?_
    refine sy _ (zmv rfl (e rfl rfl)) rfl rfl ?_
    refine sy _ (zmv rfl (e rfl rfl)) rfl rfl ?_
    refine sy (.t ⟨false, [.ep 0 0 i 0]⟩) (zis tabOk rfl rfl rfl (e rfl rfl) rfl (e rfl rfl) (ltm_of_some hxi) (Nat.zero_add _)) rfl rfl ?_
    refine sy (.t ⟨false, [.ep 0 0 i 6]⟩) (zfa tabOk rfl rfl rfl (e rfl rfl) rfl rfl) rfl rfl ?_
    refine sy (.t ⟨false, [.nr 0 0 i 6]⟩) (zlr tabOk rfl (e rfl rfl) rfl (set_get (mkTo_lt hxi)) rfl rfl) rfl rfl ?_
    refine sy _ (zmv rfl (e rfl rfl)) rfl rfl ?_
    refine sd (.t ⟨false, [.d (dI ((mkL mkFrame x.Stack k6).2))]⟩) (zcall 1 (sc (dI (mkL mkFrame x.Stack k6).2)) [(0, .row 7 (((mkTo mkJob xs k i).map Job.cells).set i [dI (k0), dI (k1), dS (mt k2), dI (k3), dI (k4), dI (k5), .sl 15 ((mkL mkFrame x.Stack k6).1.map Frame.cells)]) true 0 0)] rfl (tr_markFrameS x.Stack ((hx.2 _ (List.mem_of_getElem? hxi)).Stack) k6 hl6) (ae (e rfl rfl) rfl rfl (set_get (mkTo_lt hxi)) rfl rfl sh1 rfl (ar (e rfl rfl) (.d .nil) .nil)) rfl rfl (congrArg (fun l => [(0, VO.row 7 l true 0 0)]) (List.set_set _))) rfl rfl rfl rfl ?_
    refine sy _ (zas rfl (e rfl rfl)) rfl rfl ?_
    have hl7 : (mkL mkFrame x.Stack k6).2 < 9223372036854775808 := mkL_lt mkFrame_lt hl6
    generalize hk7 : (mkL mkFrame x.Stack k6).2 = k7 at hl7 ⊢
    refine s_end ?_
    refine blk_norm ?_
    refine v_reg ?_
    refine sy _ (zmv rfl (e rfl rfl)) rfl rfl ?_
    refine sy (.t ⟨false, [.d (dI ((i : Int) + 1))]⟩) (y_bin rfl (e rfl rfl) (ec rfl) (fun _ => b_addn (by omega) (by omega)) rfl) rfl rfl ?_
    refine sy _ (zas rfl (e rfl rfl)) rfl rfl ?_
    refine s_end ?_
    subst hk0 hk1 hk2 hk3 hk4 hk5 hk6 hk7
    exact lp_next (i + 1) hlt (by omega) ⟨rfl, congrArg (fun v => sc (dI v)) (kTo_succ (f := mkJob) hxi).symm, rfl, trivial⟩ ⟨congrArg (fun l => VO.row 7 l true 0 0) (mkTo_set (f := mkJob) (c := Job.cells) hxi), trivial⟩ rfl
  have hend : i = xs.length := by have := hb1; simp at this; omega
  refine v_exit ?_
  refine then_exit ?_
  refine loop_exit ?_
  refine blk_hit ?_
  refine v_seq ?_
  refine v_reg ?_
  refine sy _ (zmv rfl (e rfl rfl)) rfl rfl ?_
  refine sy _ (zas rfl (e rfl rfl)) rfl rfl ?_
  refine s_end ?_
  refine v_ret ?_
  have e1 : kTo mkJob xs k i = (mkL mkJob xs k).2 := kTo_end hend
  have e2 : ((mkTo mkJob xs k i).map Job.cells) = (mkL mkJob xs k).1.map Job.cells := by rw [mkTo_end hend]
  rw [← e1, ← e2]
  exact post_ret (rv (.tmp (eg rfl rfl)) rfl (.lf .nil) rfl .nil) (.mu rfl (.sl rfl (by rw [List.length_map, List.length_map, mkTo_len]) .nil) (.ro .nil)) rfl
set_option maxRecDepth 20000 in
theorem tr_heldJobS (xs ys : List Job) (hx : fitL Job.Fit xs) (k : Int) (h0 : 0 ≤ k) (h1 : k + 16 * (wtL Job.wt xs : Int) < 4611686018427387904) (hys : ys = (mkL mkJob xs k).1) : Tr Try.prog 47 [.ro (one (.sl 7 (ys.map Job.cells))), .ro (one (dI k))] [one (dI (mkL mkJob xs k).2)] := by
  have hlen : ys.length = xs.length := by rw [hys, mkL_len]
  refine tr_go tabOk Try.func47 rfl rfl rfl rfl rfl (ov := [(0, .t ⟨false, [.d (.sl 7 (ys.map Job.cells))]⟩), (1, .t ⟨false, [.d (dI (k))]⟩)]) (hv := []) rfl rfl ?_
  refine v_seq ?_
  refine v_reg ?_
  refine sy _ (zas rfl (ec rfl)) rfl rfl ?_
  refine s_end ?_
  refine v_seq ?_
  refine v_seq ?_
  refine v_reg ?_
  refine sy _ (zas rfl (ec rfl)) rfl rfl ?_
  refine s_end ?_
  refine v_block ?_
  have hB := hx.1
  refine v_lp (fun (i : Nat) => [(0, .t ⟨false, [.d (.sl 7 (ys.map Job.cells))]⟩), (1, .t ⟨false, [.d (dI (kTo mkJob xs k i))]⟩), (5, .t ⟨false, [.d (dI (i : Int))]⟩)]) (fun _ => []) (fun i => i ≤ xs.length) (fun i => xs.length - i) 0 (Nat.zero_le _) ⟨rfl, congrArg (fun v => sc (dI v)) kTo_zero.symm, rfl, trivial⟩ trivial rfl (fun i hi => ?_)
  refine v_seq ?_
  refine v_seq ?_
  refine v_reg ?_
  refine sy _ (zmv rfl (e rfl rfl)) rfl rfl ?_
  refine sy _ (zmv rfl (e rfl rfl)) rfl rfl ?_
  refine sy (.t ⟨false, [.d (dI ((ys.map Job.cells).length : Int))]⟩) (zln tabOk rfl rfl (e rfl rfl) .d) rfl rfl ?_
  refine sy (.t ⟨false, [.d (dB (decide (((i : Int)) < (((ys.map Job.cells).length : Int)))))]⟩) (y_bin rfl (e rfl rfl) (e rfl rfl) (fun _ => b_lss) rfl) rfl rfl ?_
  refine s_end ?_
  refine v_cond (e rfl rfl) (fun hb1 => ?_) fun hb1 => ?_
  · have hlt : i < xs.length := by have := hb1; simp at this; omega
    obtain ⟨x, hxi⟩ := some_of_lt hlt
    have hg := mkL_get (f := mkJob) (k := k) hxi
    rw [← hys] at hg
    have hge := kTo_ge (i := i) mkJob_ok h0 h1
    rw [drop_wt hxi] at hge
    simp only [Job.wt, Quest.wt] at hge
    generalize hk0 : kTo mkJob xs k i = k0 at hg hge ⊢
    obtain ⟨y, hy⟩ : ∃ y, y = (mkJob x k0).1 := ⟨_, rfl⟩
    rw [← hy] at hg
    have hf0 : y.No = k0 := by rw [hy]; rfl
    refine v_skip ?_
    refine v_seq ?_
    refine v_block ?_
    refine v_seq ?_
    refine v_seq ?_
    refine v_reg ?_
    refine sy _ (zmv rfl (e rfl rfl)) rfl rfl ?_
    refine sy _ (zmv rfl (e rfl rfl)) rfl rfl ?_
    refine sy (.t ⟨false, [.fe 7 (ys.map Job.cells) i 0]⟩) (zix tabOk rfl rfl rfl (e rfl rfl) (e rfl rfl) (ltm_of_some hg)) rfl rfl ?_
    refine sy (.t ⟨false, [.fe 7 (ys.map Job.cells) i 0]⟩) (zfa tabOk rfl rfl rfl (e rfl rfl) rfl rfl) rfl rfl ?_
    refine sy (.t ⟨false, [.d (dI (y.No))]⟩) (zle tabOk rfl (e rfl rfl) (getm hg) rfl rfl) rfl rfl ?_
    refine sy _ (zmv rfl (e rfl rfl)) rfl rfl ?_
    refine sy (.t ⟨false, [.d (dB (decide ((y.No) ≠ (k0))))]⟩) (y_bin rfl (e rfl rfl) (e rfl rfl) (fun _ => b_neq) rfl) rfl rfl ?_
    refine s_end ?_
    refine v_cond (e rfl rfl) (fun hb2 => ?_) fun hb2 => ?_
    · exact absurd hb2 (by simp [hf0])
    refine v_skip ?_
    refine v_seq ?_
    refine v_reg ?_
    refine sy _ (zmv rfl (e rfl rfl)) rfl rfl ?_
    refine sy (.t ⟨false, [.d (dI (nx k0))]⟩) (y_bin rfl (e rfl rfl) (ec rfl) (fun _ => b_nx) rfl) rfl rfl ?_
    refine sy _ (zas rfl (e rfl rfl)) rfl rfl ?_
    have hg1 := nx_eq (k := k0) (by omega) (by omega)
    generalize hk1 : nx k0 = k1 at hg1 ⊢
    have hf1 : y.Client = k1 := by rw [hy]; subst hk1; rfl
    refine s_end ?_
    refine v_seq ?_
    refine v_seq ?_
    refine v_reg ?_
    refine sy _ (zmv rfl (e rfl rfl)) rfl rfl ?_
    refine sy _ (zmv rfl (e rfl rfl)) rfl rfl ?_
    refine sy (.t ⟨false, [.fe 7 (ys.map Job.cells) i 0]⟩) (zix tabOk rfl rfl rfl (e rfl rfl) (e rfl rfl) (ltm_of_some hg)) rfl rfl ?_
    refine sy (.t ⟨false, [.fe 7 (ys.map Job.cells) i 1]⟩) (zfa tabOk rfl rfl rfl (e rfl rfl) rfl rfl) rfl rfl ?_
    refine sy (.t ⟨false, [.d (dI (y.Client))]⟩) (zle tabOk rfl (e rfl rfl) (getm hg) rfl rfl) rfl rfl ?_
    refine sy _ (zmv rfl (e rfl rfl)) rfl rfl ?_
    refine sy (.t ⟨false, [.d (dB (decide ((y.Client) ≠ (k1))))]⟩) (y_bin rfl (e rfl rfl) (e rfl rfl) (fun _ => b_neq) rfl) rfl rfl ?_
    refine s_end ?_
    refine v_cond (e rfl rfl) (fun hb3 => ?_) fun hb3 => ?_
    · exact absurd hb3 (by simp [hf1])
    refine v_skip ?_
    refine v_seq ?_
    refine v_reg ?_
    refine sy _ (zmv rfl (e rfl rfl)) rfl rfl ?_
    refine sy (.t ⟨false, [.d (dI (nx k1))]⟩) (y_bin rfl (e rfl rfl) (ec rfl) (fun _ => b_nx) rfl) rfl rfl ?_
    refine sy _ (zas rfl (e rfl rfl)) rfl rfl ?_
    have hg2 := nx_eq (k := k1) (by omega) (by omega)
    generalize hk2 : nx k1 = k2 at hg2 ⊢
    have hf2 : y.Ask.Name = mt k2 := by rw [hy]; subst hk1 hk2; rfl
    refine s_end ?_
    refine v_seq ?_
    refine v_seq ?_
    refine v_drw [⟨.t ⟨false, [.d (.sl 7 (ys.map Job.cells))]⟩, [], [0], [], false⟩, ⟨.t ⟨false, [.d (dI (i : Int))]⟩, [], [5], [], false⟩, ⟨.t ⟨false, [.fe 7 (ys.map Job.cells) i 0]⟩, [], [30, 31], [], false⟩, ⟨.t ⟨false, [.fe 7 (ys.map Job.cells) i 2]⟩, [], [32], [], false⟩, ⟨.t ⟨false, [.fe 7 (ys.map Job.cells) i 2]⟩, [], [33], [], false⟩, ⟨.t ⟨false, [.d (dS (y.Ask.Name))]⟩, [], [34], [], false⟩, ⟨.t ⟨false, [.d (dI (k2))]⟩, [], [1], [], false⟩, ⟨.t ⟨false, [.d (dS (mt k2))]⟩, [], [36], [], false⟩, ⟨.t ⟨false, [.d (dB (decide ((y.Ask.Name) ≠ (mt k2))))]⟩, [], [35, 37], [], false⟩] mixed rfl rfl rfl rfl ⟨gN rfl rfl (fun t h A => dy (zmv rfl (A.e rfl rfl rfl))), gN rfl rfl (fun t h A => dy (zmv rfl (A.e rfl rfl rfl))), gN rfl rfl (fun t h A => dy (zix tabOk rfl rfl rfl (A.e rfl rfl rfl) (A.e rfl rfl rfl) (ltm_of_some hg))), gN rfl rfl (fun t h A => dy (zfa tabOk rfl rfl rfl (A.e rfl rfl rfl) rfl rfl)), gN rfl rfl (fun t h A => dy (zfa tabOk rfl rfl rfl (A.e rfl rfl rfl) rfl rfl)), gN rfl rfl (fun t h A => dy (zle tabOk rfl (A.e rfl rfl rfl) (getm hg) rfl rfl)), gN rfl rfl (fun t h A => dy (zmv rfl (A.e rfl rfl rfl))), gN rfl rfl (fun t h A => zcallA 0 (sc (dS (mt k2))) [] rfl (tr_markText k2 (by omega)) (ar (A.e rfl rfl rfl) (.d .nil) .nil) rfl (free0 rfl) rfl rfl), gN rfl rfl (fun t h A => dy (y_bin rfl (A.e rfl rfl rfl) (A.e rfl rfl rfl) (fun _ => b_sneq) rfl)), trivial⟩ ?_
    refine s_end ?_
    refine v_cond (e rfl rfl) (fun hb4 => ?_) fun hb4 => ?_
    · exact absurd hb4 (by simp [hf2])
    refine v_skip ?_
    refine v_seq ?_
    refine v_reg ?_
    refine sy _ (zmv rfl (e rfl rfl)) rfl rfl ?_
    refine sy (.t ⟨false, [.d (dI (nx k2))]⟩) (y_bin rfl (e rfl rfl) (ec rfl) (fun _ => b_nx) rfl) rfl rfl ?_
    refine sy _ (zas rfl (e rfl rfl)) rfl rfl ?_
    have hg3 := nx_eq (k := k2) (by omega) (by omega)
    generalize hk3 : nx k2 = k3 at hg3 ⊢
    have hf3 : y.Ask.Typ = k3 := by rw [hy]; subst hk1 hk2 hk3; rfl
    refine s_end ?_
    refine v_seq ?_
    refine v_seq ?_
    refine v_reg ?_
    refine sy _ (zmv rfl (e rfl rfl)) rfl rfl ?_
    refine sy _ (zmv rfl (e rfl rfl)) rfl rfl ?_
    refine sy (.t ⟨false, [.fe 7 (ys.map Job.cells) i 0]⟩) (zix tabOk rfl rfl rfl (e rfl rfl) (e rfl rfl) (ltm_of_some hg)) rfl rfl ?_
    refine sy (.t ⟨false, [.fe 7 (ys.map Job.cells) i 2]⟩) (zfa tabOk rfl rfl rfl (e rfl rfl) rfl rfl) rfl rfl ?_
    refine sy (.t ⟨false, [.fe 7 (ys.map Job.cells) i 3]⟩) (zfa tabOk rfl rfl rfl (e rfl rfl) rfl rfl) rfl rfl ?_
    refine sy (.t ⟨false, [.d (dI (y.Ask.Typ))]⟩) (zle tabOk rfl (e rfl rfl) (getm hg) rfl rfl) rfl rfl ?_
    refine sy _ (zmv rfl (e rfl rfl)) rfl rfl ?_
    refine sy (.t ⟨false, [.d (dB (decide ((y.Ask.Typ) ≠ (k3))))]⟩) (y_bin rfl (e rfl rfl) (e rfl rfl) (fun _ => b_neq) rfl) rfl rfl ?_
    refine s_end ?_
    refine v_cond (e rfl rfl) (fun hb5 => ?_) fun hb5 => ?_
    · exact absurd hb5 (by simp [hf3])
    refine v_skip ?_
    refine v_seq ?_
    refine v_reg ?_
    refine sy _ (zmv rfl (e rfl rfl)) rfl rfl ?_
    refine sy (.t ⟨false, [.d (dI (nx k3))]⟩) (y_bin rfl (e rfl rfl) (ec rfl) (fun _ => b_nx) rfl) rfl rfl ?_
    refine sy _ (zas rfl (e rfl rfl)) rfl rfl ?_
    have hg4 := nx_eq (k := k3) (by omega) (by omega)
    generalize hk4 : nx k3 = k4 at hg4 ⊢
    have hf4 : y.Sent = k4 := by rw [hy]; subst hk1 hk2 hk3 hk4; rfl
    refine s_end ?_
    refine v_seq ?_
    refine v_seq ?_
    refine v_reg ?_
    refine sy _ (zmv rfl (e rfl rfl)) rfl rfl ?_
    refine sy _ (zmv rfl (e rfl rfl)) rfl rfl ?_
    refine sy (.t ⟨false, [.fe 7 (ys.map Job.cells) i 0]⟩) (zix tabOk rfl rfl rfl (e rfl rfl) (e rfl rfl) (ltm_of_some hg)) rfl rfl ?_
    refine sy (.t ⟨false, [.fe 7 (ys.map Job.cells) i 4]⟩) (zfa tabOk rfl rfl rfl (e rfl rfl) rfl rfl) rfl rfl ?_
    refine sy (.t ⟨false, [.d (dI (y.Sent))]⟩) (zle tabOk rfl (e rfl rfl) (getm hg) rfl rfl) rfl rfl ?_
    refine sy _ (zmv rfl (e rfl rfl)) rfl rfl ?_
    refine sy (.t ⟨false, [.d (dB (decide ((y.Sent) ≠ (k4))))]⟩) (y_bin rfl (e rfl rfl) (e rfl rfl) (fun _ => b_neq) rfl) rfl rfl ?_
    refine s_end ?_
    refine v_cond (e rfl rfl) (fun hb6 => ?_) fun hb6 => ?_
    · exact absurd hb6 (by simp [hf4])
    refine v_skip ?_
    refine v_seq ?_
    refine v_reg ?_
    refine sy _ (zmv rfl (e rfl rfl)) rfl rfl ?_
    refine sy (.t ⟨false, [.d (dI (nx k4))]⟩) (y_bin rfl (e rfl rfl) (ec rfl) (fun _ => b_nx) rfl) rfl rfl ?_
    refine sy _ (zas rfl (e rfl rfl)) rfl rfl ?_
    have hg5 := nx_eq (k := k4) (by omega) (by omega)
    generalize hk5 : nx k4 = k5 at hg5 ⊢
    have hf5 : y.Fetched = k5 := by rw [hy]; subst hk1 hk2 hk3 hk4 hk5; rfl
    refine s_end ?_
    refine v_seq ?_
    refine v_seq ?_
    refine v_reg ?_
    refine sy _ (zmv rfl (e rfl rfl)) rfl rfl ?_
    refine sy _ (zmv rfl (e rfl rfl)) rfl rfl ?_
    refine sy (.t ⟨false, [.fe 7 (ys.map Job.cells) i 0]⟩) (zix tabOk rfl rfl rfl (e rfl rfl) (e rfl rfl) (ltm_of_some hg)) rfl rfl ?_
    refine sy (.t ⟨false, [.fe 7 (ys.map Job.cells) i 5]⟩) (zfa tabOk rfl rfl rfl (e rfl rfl) rfl rfl) rfl rfl ?_
    refine sy (.t ⟨false, [.d (dI (y.Fetched))]⟩) (zle tabOk rfl (e rfl rfl) (getm hg) rfl rfl) rfl rfl ?_
    refine sy _ (zmv rfl (e rfl rfl)) rfl rfl ?_
    refine sy (.t ⟨false, [.d (dB (decide ((y.Fetched) ≠ (k5))))]⟩) (y_bin rfl (e rfl rfl) (e rfl rfl) (fun _ => b_neq) rfl) rfl rfl ?_
    refine s_end ?_
    refine v_cond (e rfl rfl) (fun hb7 => ?_) fun hb7 => ?_
    · exact absurd hb7 (by simp [hf5])
    refine v_skip ?_
    refine v_seq ?_
    refine v_reg ?_
    refine sy _ (zmv rfl (e rfl rfl)) rfl rfl ?_
    refine sy (.t ⟨false, [.d (dI (nx k5))]⟩) (y_bin rfl (e rfl rfl) (ec rfl) (fun _ => b_nx) rfl) rfl rfl ?_
    refine sy _ (zas rfl (e rfl rfl)) rfl rfl ?_
    have hg6 := nx_eq (k := k5) (by omega) (by omega)
    generalize hk6 : nx k5 = k6 at hg6 ⊢
    have hf6 : y.Stack = (mkL mkFrame x.Stack k6).1 := by rw [hy]; subst hk1 hk2 hk3 hk4 hk5 hk6; rfl
    refine s_end ?_
    refine v_seq ?_
    refine v_reg ?_
    refine sy _ (zmv rfl (e rfl rfl)) rfl rfl ?_
    refine sy _ (zmv rfl (e rfl rfl)) rfl rfl ?_
    refine sy (.t ⟨false, [.fe 7 (ys.map Job.cells) i 0]⟩) (zix tabOk rfl rfl rfl (e rfl rfl) (e rfl rfl) (ltm_of_some hg)) rfl rfl ?_
    refine sy (.t ⟨false, [.fe 7 (ys.map Job.cells) i 6]⟩) (zfa tabOk rfl rfl rfl (e rfl rfl) rfl rfl) rfl rfl ?_
    refine sy (.t ⟨false, [.d (.sl 15 (y.Stack.map Frame.cells))]⟩) (zle tabOk rfl (e rfl rfl) (getm hg) rfl rfl) rfl rfl ?_
    refine sy _ (zmv rfl (e rfl rfl)) rfl rfl ?_
    refine sd (.t ⟨false, [.d (dI ((mkL mkFrame x.Stack k6).2))]⟩) (zcall 0 (sc (dI (mkL mkFrame x.Stack k6).2)) [] rfl (tr_heldFrameS x.Stack y.Stack ((hx.2 _ (List.mem_of_getElem? hxi)).Stack) k6 (by omega) (by omega) hf6) (ar (e rfl rfl) (.d .nil) (ar (e rfl rfl) (.d .nil) .nil)) rfl rfl rfl) rfl rfl rfl rfl ?_
    refine sy _ (zas rfl (e rfl rfl)) rfl rfl ?_
    have hg7 := mkL_ge mkFrame_ok (xs := x.Stack) (k := k6) (by omega) (by omega)
    generalize hk7 : (mkL mkFrame x.Stack k6).2 = k7 at hg7 ⊢
    refine s_end ?_
    refine v_seq ?_
    refine v_reg ?_
    refine sy _ (zmv rfl (e rfl rfl)) rfl rfl ?_
    refine sy (.t ⟨false, [.d (dB (decide ((k7) < (0))))]⟩) (y_bin rfl (e rfl rfl) (ec rfl) (fun _ => b_lss) rfl) rfl rfl ?_
    refine s_end ?_
    refine v_cond (e rfl rfl) (fun hb8 => ?_) fun hb8 => ?_
    · exact absurd hb8 (by simp; omega)
    refine v_skip ?_
    refine blk_norm ?_
    refine v_reg ?_
    refine sy _ (zmv rfl (e rfl rfl)) rfl rfl ?_
    refine sy (.t ⟨false, [.d (dI ((i : Int) + 1))]⟩) (y_bin rfl (e rfl rfl) (ec rfl) (fun _ => b_addn (by omega) (by omega)) rfl) rfl rfl ?_
    refine sy _ (zas rfl (e rfl rfl)) rfl rfl ?_
    refine s_end ?_
    subst hk1 hk2 hk3 hk4 hk5 hk6 hk7
    subst hk0
    exact lp_next (i + 1) hlt (by omega) ⟨rfl, congrArg (fun v => sc (dI v)) (kTo_succ (f := mkJob) hxi).symm, rfl, trivial⟩ trivial rfl
  have hend : i = xs.length := by have := hb1; simp at this; omega
  refine v_exit ?_
  refine then_exit ?_
  refine loop_exit ?_
  refine blk_hit ?_
  refine v_seq ?_
  refine v_reg ?_
  refine sy _ (zmv rfl (e rfl rfl)) rfl rfl ?_
  refine sy _ (zas rfl (e rfl rfl)) rfl rfl ?_
  refine s_end ?_
  refine v_ret ?_
  have e1 : kTo mkJob xs k i = (mkL mkJob xs k).2 := kTo_end hend
  rw [← e1]
  exact post_ret (rv (.tmp (eg rfl rfl)) rfl (.lf .nil) rfl .nil) (.ro (.ro .nil)) rfl
end Go.Proofs.Ytglilpigoocgeaa.V
