/-
  The families of laws of FrameS.
-/
import Derived.Test.YtglilpigoocgeaaTFrame
import Derived.Test.YtglilpigoocgeaaN
import Derived.Test.YtglilpigoocgeaaC
import Derived.Test.YtglilpigoocgeaaM
import Derived.Test.YtglilpigoocgeaaTIntS
import Derived.Test.YtglilpigoocgeaaTRecordS
import Derived.Test.YtglilpigoocgeaaTStringS
namespace Go.Proofs.Ytglilpigoocgeaa.V
open Go
set_option linter.unusedVariables false
set_option linter.unusedSimpArgs false
set_option maxRecDepth 20000 in
theorem tr_szFrameS (xs : List Frame) (hb : bndL Frame.Bnd xs) (left : Int) (h0 : 0 ≤ left) (hl : left ≤ 1048576) : TrX Try.prog 108 [.ro ⟨false, [.sl 15 (xs.map Frame.cells)]⟩, .ro (one (dI left))] (resI fun r => 0 ≤ r → r + (wtL Frame.wt xs : Int) ≤ left ∧ fitL Frame.Fit xs) := by
  have hB := hb.1
  have hlm : (xs.map Frame.cells).length = xs.length := List.length_map _
  refine trX_go tabOk Try.func108 rfl rfl rfl rfl rfl (ov := [(0, .t ⟨false, [.d (.sl 15 (xs.map Frame.cells))]⟩), (1, .t ⟨false, [.d (dI (left))]⟩)]) (hv := []) rfl rfl ?_
  refine v_seq ?_
  refine v_reg ?_
  refine sy _ (zas rfl (ec rfl)) rfl rfl ?_
  refine s_end ?_
  refine v_seq ?_
  refine v_reg ?_
  refine sy _ (zmv rfl (e rfl rfl)) rfl rfl ?_
  refine sy _ (zmv rfl (e rfl rfl)) rfl rfl ?_
  refine sy (.t ⟨false, [.d (dI ((xs.map Frame.cells).length : Int))]⟩) (zln tabOk rfl rfl (e rfl rfl) .d) rfl rfl ?_
  refine sy (.t ⟨false, [.d (dI (left - ((xs.map Frame.cells).length : Int)))]⟩) (y_bin rfl (e rfl rfl) (e rfl rfl) (fun _ => b_subn (by omega) (by omega)) rfl) rfl rfl ?_
  refine sy _ (zas rfl (e rfl rfl)) rfl rfl ?_
  refine s_end ?_
  refine v_seq ?_
  refine v_seq ?_
  refine v_reg ?_
  refine sy _ (zmv rfl (e rfl rfl)) rfl rfl ?_
  refine sy (.t ⟨false, [.d (dB (decide ((left - ((xs.map Frame.cells).length : Int)) < (0))))]⟩) (y_bin rfl (e rfl rfl) (ec rfl) (fun _ => b_lss) rfl) rfl rfl ?_
  refine s_end ?_
  refine v_cond (e rfl rfl) (fun hb1 => ?_) fun hb1 => ?_
  · refine v_seq ?_
    refine v_reg ?_
    refine sy _ (zas rfl (ec rfl)) rfl rfl ?_
    refine s_end ?_
    refine v_ret ?_
    exact post_retX [one (dI (-1))] ⟨-1, fun h => by omega, rfl⟩ (rv (.tmp (eg rfl rfl)) rfl (.lf .nil) rfl .nil) (.ro (.ro .nil)) rfl
  have p2 : 0 ≤ left - ((xs.map Frame.cells).length : Int) := by have := hb1; simp at this; omega
  refine v_skip ?_
  refine v_seq ?_
  refine v_seq ?_
  refine v_reg ?_
  refine sy _ (zas rfl (ec rfl)) rfl rfl ?_
  refine s_end ?_
  refine v_block ?_
  refine v_lp (fun (q : Nat × Int) => [(0, .t ⟨false, [.d (.sl 15 (xs.map Frame.cells))]⟩), (1, .t ⟨false, [.d (dI (q.2))]⟩), (5, .t ⟨false, [.d (dI (q.1 : Int))]⟩)]) (fun _ => []) (fun q => q.1 ≤ xs.length ∧ 0 ≤ q.2 ∧ q.2 + (wtTo Frame.wt xs q.1 : Int) + xs.length ≤ left ∧ allTo Frame.Fit xs q.1) (fun q => xs.length - q.1) (0, left - ((xs.map Frame.cells).length : Int)) ⟨Nat.zero_le _, by simp only; omega, by simp only [wtTo, List.take_zero, List.map_nil, List.sum_nil]; omega, allTo_zero⟩ ⟨rfl, rfl, rfl, trivial⟩ trivial rfl (fun q hi => ?_)
  obtain ⟨i, lf⟩ := q
  have hi0 := hi.1; have hi1 := hi.2.1; have hi2 := hi.2.2.1
  simp only at hi0 hi1 hi2
  refine v_seq ?_
  refine v_seq ?_
  refine v_reg ?_
  refine sy _ (zmv rfl (e rfl rfl)) rfl rfl ?_
  refine sy _ (zmv rfl (e rfl rfl)) rfl rfl ?_
  refine sy (.t ⟨false, [.d (dI ((xs.map Frame.cells).length : Int))]⟩) (zln tabOk rfl rfl (e rfl rfl) .d) rfl rfl ?_
  refine sy (.t ⟨false, [.d (dB (decide (((i : Int)) < (((xs.map Frame.cells).length : Int)))))]⟩) (y_bin rfl (e rfl rfl) (e rfl rfl) (fun _ => b_lss) rfl) rfl rfl ?_
  refine s_end ?_
  refine v_cond (e rfl rfl) (fun hb3 => ?_) fun hb3 => ?_
  · have hlt : i < xs.length := by have := hb3; simp at this; omega
    obtain ⟨x, hxi⟩ := some_of_lt hlt
    have hbx := hb.2 _ (List.mem_of_getElem? hxi)
    refine v_skip ?_
    refine v_seq ?_
    refine v_block ?_
    refine v_seq ?_
    refine v_reg ?_
    refine sy _ (zmv rfl (e rfl rfl)) rfl rfl ?_
    refine sy _ (zmv rfl (e rfl rfl)) rfl rfl ?_
    refine sy (.t ⟨false, [.fe 15 (xs.map Frame.cells) i 0]⟩) (zix tabOk rfl rfl rfl (e rfl rfl) (e rfl rfl) (ltm_of_some hxi)) rfl rfl ?_
    refine sy (.t ⟨true, [.d (dS (x.Ask.Name)), .d (dI (x.Ask.Typ)), .d (dS (x.Q.Name)), .d (dI (x.Q.Typ)), .d (.sl 6 (x.Links.map Record.cells)), .d (dS (x.Apex)), .d (.sl 1 (x.Servers.map encI)), .d (.sl 1 (x.Need.map encS)), .d (dI (x.Down)), .d (dI (x.Left)), .d (dI (x.Pc)), .d (dI (x.X.Id)), .d (dI (x.X.Addr)), .d (dI (x.X.Try)), .d (dI (x.X.Due))]⟩) (zle tabOk rfl (e rfl rfl) (getm hxi) rfl rfl) rfl rfl ?_
    refine sy _ (zmv rfl (e rfl rfl)) rfl rfl ?_
    refine sxI (zcallX rfl (tr_szFrame x hbx lf (by omega) (by omega)) (ar (e rfl rfl) (.d (.d (.d (.d (.d (.d (.d (.d (.d (.d (.d (.d (.d (.d (.d .nil))))))))))))))) (ar (e rfl rfl) (.d .nil) .nil))) rfl rfl (fun r4 hr4 => ?_)
    refine sy _ (zas rfl (e rfl rfl)) rfl rfl ?_
    refine s_end ?_
    refine v_seq ?_
    refine v_reg ?_
    refine sy _ (zmv rfl (e rfl rfl)) rfl rfl ?_
    refine sy (.t ⟨false, [.d (dB (decide ((r4) < (0))))]⟩) (y_bin rfl (e rfl rfl) (ec rfl) (fun _ => b_lss) rfl) rfl rfl ?_
    refine s_end ?_
    refine v_cond (e rfl rfl) (fun hb5 => ?_) fun hb5 => ?_
    · refine v_seq ?_
      refine v_reg ?_
      refine sy _ (zas rfl (ec rfl)) rfl rfl ?_
      refine s_end ?_
      refine v_ret ?_
      exact post_retX [one (dI (-1))] ⟨-1, fun h => by omega, rfl⟩ (rv (.tmp (eg rfl rfl)) rfl (.lf .nil) rfl .nil) (.ro (.ro .nil)) rfl
    have p6 : 0 ≤ r4 := by have := hb5; simp at this; omega
    refine v_skip ?_
    refine blk_norm ?_
    refine v_reg ?_
    refine sy _ (zmv rfl (e rfl rfl)) rfl rfl ?_
    refine sy (.t ⟨false, [.d (dI ((i : Int) + 1))]⟩) (y_bin rfl (e rfl rfl) (ec rfl) (fun _ => b_addn (by omega) (by omega)) rfl) rfl rfl ?_
    refine sy _ (zas rfl (e rfl rfl)) rfl rfl ?_
    refine s_end ?_
    have e1 := wtTo_succ (f := Frame.wt) hxi
    have e2 := hr4 p6
    have e3 := e2.1
    exact lp_next (i + 1, r4) ⟨hlt, by simp only; omega, by simp only; omega, allTo_succ hxi hi.2.2.2 e2.2⟩ (by simp only; omega) ⟨rfl, rfl, rfl, trivial⟩ trivial rfl
  have hend : i = xs.length := by have := hb3; simp at this; omega
  refine v_exit ?_
  refine then_exit ?_
  refine loop_exit ?_
  refine blk_hit ?_
  refine v_seq ?_
  refine v_reg ?_
  refine sy _ (zmv rfl (e rfl rfl)) rfl rfl ?_
  refine sy _ (zas rfl (e rfl rfl)) rfl rfl ?_
  refine s_end ?_
  refine v_ret ?_
  have e1 := wtTo_end (f := Frame.wt) hend
  exact post_retX [one (dI (lf))] ⟨lf, fun h => ⟨by rw [e1]; omega, ⟨by omega, allTo_end hend hi.2.2.2⟩⟩, rfl⟩ (rv (.tmp (eg rfl rfl)) rfl (.lf .nil) rfl .nil) (.ro (.ro .nil)) rfl
set_option maxRecDepth 20000 in
theorem tr_toFrameS (xs : List Frame) (hx : fitL Frame.Fit xs) : Tr Try.prog 113 [.ro ⟨false, [.sl 15 (xs.map Frame.cells)]⟩] [⟨false, [.sl 15 (xs.map Frame.cells)]⟩] := by
  refine tr_go tabOk Try.func113 rfl rfl rfl rfl rfl (ov := [(0, .t ⟨false, [.d (.sl 15 (xs.map Frame.cells))]⟩)]) (hv := []) rfl rfl ?_
  refine v_seq ?_
  refine v_reg ?_
  refine sy _ (zas rfl (en 15)) rfl rfl ?_
  refine s_end ?_
  refine v_seq ?_
  refine v_reg ?_
  refine sy _ (zmv rfl (e rfl rfl)) rfl rfl ?_
  refine sy (.t ⟨false, [.d (dI ((xs.map Frame.cells).length : Int))]⟩) (zln tabOk rfl rfl (e rfl rfl) .d) rfl rfl ?_
  refine sr 0 (.t ⟨false, [.sr 0 1 0 ((xs.map Frame.cells).length) ((xs.map Frame.cells).length)]⟩) (.row 15 (List.replicate ((xs.map Frame.cells).length) [dS (⟨#[]⟩), dI (0), dS (⟨#[]⟩), dI (0), .sl 6 ([]), dS (⟨#[]⟩), .sl 1 ([]), .sl 1 ([]), dI (0), dI (0), dI (0), dI (0), dI (0), dI (0), dI (0)]) true 1 0) (zmk tabOk rfl rfl rfl (e rfl rfl) (e rfl rfl) (Nat.le_refl _) (mkok hx.1 rfl) rfl rfl) rfl rfl ?_
  refine sy _ (zas rfl (e rfl rfl)) rfl rfl ?_
  refine s_end ?_
  refine v_seq ?_
  refine v_seq ?_
  refine v_reg ?_
  refine sy _ (zas rfl (ec rfl)) rfl rfl ?_
  refine s_end ?_
  refine v_block ?_
  have hB := hx.1
  refine v_lp (fun (i : Nat) => [(0, .t ⟨false, [.d (.sl 15 (xs.map Frame.cells))]⟩), (3, .t ⟨false, [.sr 0 1 0 ((xs.map Frame.cells).length) ((xs.map Frame.cells).length)]⟩), (4, .t ⟨false, [.d (dI (i : Int))]⟩)]) (fun i => [(0, .row 15 (fill Frame.cells xs [dS (⟨#[]⟩), dI (0), dS (⟨#[]⟩), dI (0), .sl 6 ([]), dS (⟨#[]⟩), .sl 1 ([]), .sl 1 ([]), dI (0), dI (0), dI (0), dI (0), dI (0), dI (0), dI (0)] i) true 1 i)]) (fun i => i ≤ xs.length) (fun i => xs.length - i) 0 (Nat.zero_le _) ⟨rfl, rfl, rfl, trivial⟩ ⟨congrArg (fun l => VO.row 15 l true 1 0) fill0, trivial⟩ rfl (fun i hi => ?_)
  refine v_seq ?_
  refine v_seq ?_
  refine v_reg ?_
  refine sy _ (zmv rfl (e rfl rfl)) rfl rfl ?_
  refine sy _ (zmv rfl (e rfl rfl)) rfl rfl ?_
  refine sy (.t ⟨false, [.d (dI ((xs.map Frame.cells).length : Int))]⟩) (zln tabOk rfl rfl (e rfl rfl) .d) rfl rfl ?_
  refine sy (.t ⟨false, [.d (dB (decide (((i : Int)) < (((xs.map Frame.cells).length : Int)))))]⟩) (y_bin rfl (e rfl rfl) (e rfl rfl) (fun _ => b_lss) rfl) rfl rfl ?_
  refine s_end ?_
  refine v_cond (e rfl rfl) (fun hb1 => ?_) fun hb1 => ?_
  · have hlt : i < xs.length := by have := hb1; simp at this; omega
    obtain ⟨x, hxi⟩ := some_of_lt hlt
    refine v_skip ?_
    refine v_seq ?_
    refine v_block ?_
    refine v_reg ?_
    refine sy _ (zmv rfl (e rfl rfl)) rfl rfl ?_
    refine sy _ (zmv rfl (e rfl rfl)) rfl rfl ?_
    refine sy _ (zmv rfl (e rfl rfl)) rfl rfl ?_
    refine sy _ (zmv rfl (e rfl rfl)) rfl rfl ?_
    refine sy (.t ⟨false, [.fe 15 (xs.map Frame.cells) i 0]⟩) (zix tabOk rfl rfl rfl (e rfl rfl) (e rfl rfl) (ltm_of_some hxi)) rfl rfl ?_
    refine sy (.t ⟨true, [.d (dS (x.Ask.Name)), .d (dI (x.Ask.Typ)), .d (dS (x.Q.Name)), .d (dI (x.Q.Typ)), .d (.sl 6 (x.Links.map Record.cells)), .d (dS (x.Apex)), .d (.sl 1 (x.Servers.map encI)), .d (.sl 1 (x.Need.map encS)), .d (dI (x.Down)), .d (dI (x.Left)), .d (dI (x.Pc)), .d (dI (x.X.Id)), .d (dI (x.X.Addr)), .d (dI (x.X.Try)), .d (dI (x.X.Due))]⟩) (zle tabOk rfl (e rfl rfl) (getm hxi) rfl rfl) rfl rfl ?_
    refine sd (.t ⟨true, [.d (dS (x.Ask.Name)), .d (dI (x.Ask.Typ)), .d (dS (x.Q.Name)), .d (dI (x.Q.Typ)), .sr 1 1 0 ((x.Links.map Record.cells).length) ((x.Links.map Record.cells).length), .d (dS (x.Apex)), .sr 2 1 0 ((x.Servers.map encI).length) ((x.Servers.map encI).length), .sr 3 1 0 ((x.Need.map encS).length) ((x.Need.map encS).length), .d (dI (x.Down)), .d (dI (x.Left)), .d (dI (x.Pc)), .d (dI (x.X.Id)), .d (dI (x.X.Addr)), .d (dI (x.X.Try)), .d (dI (x.X.Due))]⟩) (zcall 1 (.t ⟨true, [.d (dS (x.Ask.Name)), .d (dI (x.Ask.Typ)), .d (dS (x.Q.Name)), .d (dI (x.Q.Typ)), .sr 1 1 0 ((x.Links.map Record.cells).length) ((x.Links.map Record.cells).length), .d (dS (x.Apex)), .sr 2 1 0 ((x.Servers.map encI).length) ((x.Servers.map encI).length), .sr 3 1 0 ((x.Need.map encS).length) ((x.Need.map encS).length), .d (dI (x.Down)), .d (dI (x.Left)), .d (dI (x.Pc)), .d (dI (x.X.Id)), .d (dI (x.X.Addr)), .d (dI (x.X.Try)), .d (dI (x.X.Due))]⟩) [(1, .row 6 (x.Links.map Record.cells) true 1 0), (2, .row 1 (x.Servers.map encI) true 1 0), (3, .row 1 (x.Need.map encS) true 1 0)] rfl (tr_toFrame x ((hx.2 _ (List.mem_of_getElem? hxi)))) (ar (e rfl rfl) (.d (.d (.d (.d (.d (.d (.d (.d (.d (.d (.d (.d (.d (.d (.d .nil))))))))))))))) .nil) rfl rfl rfl) rfl rfl rfl rfl ?_
    refine sy (.t ⟨false, [.ep 0 1 i 0]⟩) (zis tabOk rfl rfl rfl (e rfl rfl) rfl (e rfl rfl) (ltm_of_some hxi) (Nat.zero_add _)) rfl rfl ?_
    refine swk 0 (.row 15 (fill Frame.cells xs [dS (⟨#[]⟩), dI (0), dS (⟨#[]⟩), dI (0), .sl 6 ([]), dS (⟨#[]⟩), .sl 1 ([]), .sl 1 ([]), dI (0), dI (0), dI (0), dI (0), dI (0), dI (0), dI (0)] (i + 1)) true 1 (i + 1)) (zsg tabOk rfl (e rfl rfl) rfl (fill_get hxi) (e rfl rfl) rfl (.lf (.lf (.lf (.lf (.sr rfl le_all take_all (.lf (.sr rfl le_all take_all (.sr rfl le_all take_all (.lf (.lf (.lf (.lf (.lf (.lf (.lf .nil))))))))))))))) rfl rfl (fill_set (f := Frame.cells) hxi)) rfl rfl ?_
    refine s_end ?_
    refine blk_norm ?_
    refine v_reg ?_
    refine sy _ (zmv rfl (e rfl rfl)) rfl rfl ?_
    refine sy (.t ⟨false, [.d (dI ((i : Int) + 1))]⟩) (y_bin rfl (e rfl rfl) (ec rfl) (fun _ => b_addn (by omega) (by omega)) rfl) rfl rfl ?_
    refine sy _ (zas rfl (e rfl rfl)) rfl rfl ?_
    refine s_end ?_
    exact lp_next (i + 1) hlt (by omega) ⟨rfl, rfl, rfl, trivial⟩ ⟨rfl, trivial⟩ rfl
  have hend : i = xs.length := by have := hb1; simp at this; omega
  refine v_exit ?_
  refine then_exit ?_
  refine loop_exit ?_
  refine blk_hit ?_
  refine v_seq ?_
  refine v_reg ?_
  refine sy _ (zmv rfl (e rfl rfl)) rfl rfl ?_
  refine sy _ (zas rfl (e rfl rfl)) rfl rfl ?_
  refine s_end ?_
  refine v_ret ?_
  exact post_ret (rv (.tmp (eg rfl rfl)) rfl (.sr rfl (fill_le hend) (fill_end hend) .nil) rfl .nil) (.ro .nil) rfl
set_option maxRecDepth 20000 in
theorem tr_eqFrameS (xs ys : List Frame) (hx : fitL Frame.Fit xs) (hy : fitL Frame.Fit ys) : Tr Try.prog 102 [.ro ⟨false, [.sl 15 (xs.map Frame.cells)]⟩, .ro ⟨false, [.sl 15 (ys.map Frame.cells)]⟩] [one (dB (decide (xs = ys)))] := by
  refine tr_go tabOk Try.func102 rfl rfl rfl rfl rfl (ov := [(0, .t ⟨false, [.d (.sl 15 (xs.map Frame.cells))]⟩), (1, .t ⟨false, [.d (.sl 15 (ys.map Frame.cells))]⟩)]) (hv := []) rfl rfl ?_
  refine v_seq ?_
  refine v_reg ?_
  refine sy _ (zas rfl (ec rfl)) rfl rfl ?_
  refine s_end ?_
  refine v_seq ?_
  refine v_seq ?_
  refine v_reg ?_
  refine sy _ (zmv rfl (e rfl rfl)) rfl rfl ?_
  refine sy (.t ⟨false, [.d (dI ((xs.map Frame.cells).length : Int))]⟩) (zln tabOk rfl rfl (e rfl rfl) .d) rfl rfl ?_
  refine sy _ (zmv rfl (e rfl rfl)) rfl rfl ?_
  refine sy (.t ⟨false, [.d (dI ((ys.map Frame.cells).length : Int))]⟩) (zln tabOk rfl rfl (e rfl rfl) .d) rfl rfl ?_
  refine sy (.t ⟨false, [.d (dB (decide ((((xs.map Frame.cells).length : Int)) ≠ (((ys.map Frame.cells).length : Int)))))]⟩) (y_bin rfl (e rfl rfl) (e rfl rfl) (fun _ => b_neq) rfl) rfl rfl ?_
  refine s_end ?_
  refine v_cond (e rfl rfl) (fun hb1 => ?_) fun hb1 => ?_
  · refine v_seq ?_
    refine v_reg ?_
    refine sy _ (zas rfl (ec rfl)) rfl rfl ?_
    refine s_end ?_
    refine v_ret ?_
    have hr : decide (xs = ys) = false := by simp at hb1 ⊢; intro h; subst h; exact hb1 rfl
    rw [hr]
    exact post_ret (rv (.tmp (eg rfl rfl)) rfl (.lf .nil) rfl .nil) (.ro (.ro .nil)) rfl
  have hlen : xs.length = ys.length := by have := hb1; simp at this; omega
  refine v_skip ?_
  refine v_seq ?_
  refine v_seq ?_
  refine v_reg ?_
  refine sy _ (zas rfl (ec rfl)) rfl rfl ?_
  refine s_end ?_
  refine v_block ?_
  have hB := hx.1
  refine v_lp (fun (i : Nat) => [(0, .t ⟨false, [.d (.sl 15 (xs.map Frame.cells))]⟩), (1, .t ⟨false, [.d (.sl 15 (ys.map Frame.cells))]⟩), (5, .t ⟨false, [.d (dI (i : Int))]⟩)]) (fun _ => []) (fun i => i ≤ xs.length ∧ xs.take i = ys.take i) (fun i => xs.length - i) 0 ⟨Nat.zero_le _, rfl⟩ ⟨rfl, rfl, rfl, trivial⟩ trivial rfl (fun i hi => ?_)
  refine v_seq ?_
  refine v_seq ?_
  refine v_reg ?_
  refine sy _ (zmv rfl (e rfl rfl)) rfl rfl ?_
  refine sy _ (zmv rfl (e rfl rfl)) rfl rfl ?_
  refine sy (.t ⟨false, [.d (dI ((xs.map Frame.cells).length : Int))]⟩) (zln tabOk rfl rfl (e rfl rfl) .d) rfl rfl ?_
  refine sy (.t ⟨false, [.d (dB (decide (((i : Int)) < (((xs.map Frame.cells).length : Int)))))]⟩) (y_bin rfl (e rfl rfl) (e rfl rfl) (fun _ => b_lss) rfl) rfl rfl ?_
  refine s_end ?_
  refine v_cond (e rfl rfl) (fun hb2 => ?_) fun hb2 => ?_
  · have hlt : i < xs.length := by simpa using hb2
    obtain ⟨x, hxi⟩ := some_of_lt hlt
    obtain ⟨y, hyi⟩ := some_of_lt (l := ys) (i := i) (by omega)
    refine v_skip ?_
    refine v_seq ?_
    refine v_block ?_
    refine v_seq ?_
    refine v_drw [⟨.t ⟨false, [.d (.sl 15 (xs.map Frame.cells))]⟩, [], [0], [], false⟩, ⟨.t ⟨false, [.d (dI (i : Int))]⟩, [], [5], [], false⟩, ⟨.t ⟨false, [.fe 15 (xs.map Frame.cells) i 0]⟩, [], [17, 18], [], false⟩, ⟨.t ⟨true, [.d (dS (x.Ask.Name)), .d (dI (x.Ask.Typ)), .d (dS (x.Q.Name)), .d (dI (x.Q.Typ)), .d (.sl 6 (x.Links.map Record.cells)), .d (dS (x.Apex)), .d (.sl 1 (x.Servers.map encI)), .d (.sl 1 (x.Need.map encS)), .d (dI (x.Down)), .d (dI (x.Left)), .d (dI (x.Pc)), .d (dI (x.X.Id)), .d (dI (x.X.Addr)), .d (dI (x.X.Try)), .d (dI (x.X.Due))]⟩, [], [19], [], false⟩, ⟨.t ⟨false, [.d (.sl 15 (ys.map Frame.cells))]⟩, [], [1], [], false⟩, ⟨.t ⟨false, [.d (dI (i : Int))]⟩, [], [5], [], false⟩, ⟨.t ⟨false, [.fe 15 (ys.map Frame.cells) i 0]⟩, [], [21, 22], [], false⟩, ⟨.t ⟨true, [.d (dS (y.Ask.Name)), .d (dI (y.Ask.Typ)), .d (dS (y.Q.Name)), .d (dI (y.Q.Typ)), .d (.sl 6 (y.Links.map Record.cells)), .d (dS (y.Apex)), .d (.sl 1 (y.Servers.map encI)), .d (.sl 1 (y.Need.map encS)), .d (dI (y.Down)), .d (dI (y.Left)), .d (dI (y.Pc)), .d (dI (y.X.Id)), .d (dI (y.X.Addr)), .d (dI (y.X.Try)), .d (dI (y.X.Due))]⟩, [], [23], [], false⟩, ⟨.t ⟨false, [.d (dB (decide (x = y)))]⟩, [], [20, 24], [], false⟩, ⟨.t ⟨false, [.d (dB (!(decide (x = y))))]⟩, [], [25], [], false⟩] mixed rfl rfl rfl rfl ⟨gN rfl rfl (fun t h A => dy (zmv rfl (A.e rfl rfl rfl))), gN rfl rfl (fun t h A => dy (zmv rfl (A.e rfl rfl rfl))), gN rfl rfl (fun t h A => dy (zix tabOk rfl rfl rfl (A.e rfl rfl rfl) (A.e rfl rfl rfl) (ltm_of_some hxi))), gN rfl rfl (fun t h A => dy (zle tabOk rfl (A.e rfl rfl rfl) (getm hxi) rfl rfl)), gN rfl rfl (fun t h A => dy (zmv rfl (A.e rfl rfl rfl))), gN rfl rfl (fun t h A => dy (zmv rfl (A.e rfl rfl rfl))), gN rfl rfl (fun t h A => dy (zix tabOk rfl rfl rfl (A.e rfl rfl rfl) (A.e rfl rfl rfl) (ltm_of_some hyi))), gN rfl rfl (fun t h A => dy (zle tabOk rfl (A.e rfl rfl rfl) (getm hyi) rfl rfl)), gN rfl rfl (fun t h A => zcallA 0 (.t ⟨false, [.d (dB (decide (x = y)))]⟩) [] rfl (tr_eqFrame x y ((hx.2 _ (List.mem_of_getElem? hxi))) ((hy.2 _ (List.mem_of_getElem? hyi)))) (ar (A.e rfl rfl rfl) (.d (.d (.d (.d (.d (.d (.d (.d (.d (.d (.d (.d (.d (.d (.d .nil))))))))))))))) (ar (A.e rfl rfl rfl) (.d (.d (.d (.d (.d (.d (.d (.d (.d (.d (.d (.d (.d (.d (.d .nil))))))))))))))) .nil)) rfl (free0 rfl) rfl rfl), gN rfl rfl (fun t h A => dy (y_un rfl (A.e rfl rfl rfl) (fun _ => u_not) rfl)), trivial⟩ ?_
    refine s_end ?_
    refine v_cond (e rfl rfl) (fun hb3 => ?_) fun hb3 => ?_
    · refine v_seq ?_
      refine v_reg ?_
      refine sy _ (zas rfl (ec rfl)) rfl rfl ?_
      refine s_end ?_
      refine v_ret ?_
      have hr : decide (xs = ys) = false := by
        have hne : x ≠ y := by have := hb3; simpa using this
        simp only [decide_eq_false_iff_not]; intro h; subst h; rw [hxi] at hyi; injection hyi with hyi; exact hne hyi
      rw [hr]
      exact post_ret (rv (.tmp (eg rfl rfl)) rfl (.lf .nil) rfl .nil) (.ro (.ro .nil)) rfl
    refine v_skip ?_
    refine blk_norm ?_
    refine v_reg ?_
    refine sy _ (zmv rfl (e rfl rfl)) rfl rfl ?_
    refine sy (.t ⟨false, [.d (dI ((i : Int) + 1))]⟩) (y_bin rfl (e rfl rfl) (ec rfl) (fun _ => b_addn (by omega) (by omega)) rfl) rfl rfl ?_
    refine sy _ (zas rfl (e rfl rfl)) rfl rfl ?_
    refine s_end ?_
    have hxy : x = y := by have := hb3; simpa using this
    subst hxy
    exact lp_next (i + 1) ⟨hlt, by rw [List.take_add_one, List.take_add_one, hi.2, hxi, hyi]⟩ (by omega) ⟨rfl, rfl, rfl, trivial⟩ trivial rfl
  refine v_exit ?_
  refine then_exit ?_
  refine loop_exit ?_
  refine blk_hit ?_
  refine v_seq ?_
  refine v_reg ?_
  refine sy _ (zas rfl (ec rfl)) rfl rfl ?_
  refine s_end ?_
  refine v_ret ?_
  have hr : decide (xs = ys) = true := by
    have : i = xs.length := by have := hb2; simp at this; omega
    subst this
    have h5 := hi.2; rw [List.take_length, hlen, List.take_length] at h5; simpa using h5
  rw [hr]
  exact post_ret (rv (.tmp (eg rfl rfl)) rfl (.lf .nil) rfl .nil) (.ro (.ro .nil)) rfl
set_option maxRecDepth 20000 in
theorem tr_markFrameS (xs : List Frame) (hx : fitL Frame.Fit xs) (k : Int) (hk : k < 9223372036854775808) : Tr Try.prog 80 [.mu (one (.sl 15 (xs.map Frame.cells))) (one (.sl 15 ((mkL mkFrame xs k).1.map Frame.cells))), .ro (one (dI k))] [one (dI (mkL mkFrame xs k).2)] := by
  refine tr_go tabOk Try.func80 rfl rfl rfl rfl rfl (ov := [(0, .t ⟨false, [.sr 0 0 0 ((xs.map Frame.cells).length) ((xs.map Frame.cells).length)]⟩), (1, .t ⟨false, [.d (dI (k))]⟩)]) (hv := [(0, .row 15 (xs.map Frame.cells) true 0 0)]) rfl rfl ?_
  refine v_seq ?_
  refine v_reg ?_
  refine sy _ (zas rfl (ec rfl)) rfl rfl ?_
  refine s_end ?_
  refine v_seq ?_
  refine v_seq ?_
  refine v_reg ?_
  refine sy _ (zas rfl (ec rfl)) rfl rfl ?_
  refine s_end ?_
  refine v_block ?_
  have hB := hx.1
  refine v_lp (fun (i : Nat) => [(0, .t ⟨false, [.sr 0 0 0 ((xs.map Frame.cells).length) ((xs.map Frame.cells).length)]⟩), (1, .t ⟨false, [.d (dI (kTo mkFrame xs k i))]⟩), (5, .t ⟨false, [.d (dI (i : Int))]⟩)]) (fun i => [(0, .row 15 ((mkTo mkFrame xs k i).map Frame.cells) true 0 0)]) (fun i => i ≤ xs.length) (fun i => xs.length - i) 0 (Nat.zero_le _) ⟨rfl, congrArg (fun v => sc (dI v)) kTo_zero.symm, rfl, trivial⟩ ⟨congrArg (fun l => VO.row 15 (List.map Frame.cells l) true 0 0) mkTo_zero.symm, trivial⟩ rfl (fun i hi => ?_)
  refine v_seq ?_
  refine v_seq ?_
  refine v_reg ?_
  refine sy _ (zmv rfl (e rfl rfl)) rfl rfl ?_
  refine sy _ (zmv rfl (e rfl rfl)) rfl rfl ?_
  refine sy (.t ⟨false, [.d (dI ((xs.map Frame.cells).length : Int))]⟩) (zln tabOk rfl rfl (e rfl rfl) (.sr (dp := 0) rfl)) rfl rfl ?_
  refine sy (.t ⟨false, [.d (dB (decide (((i : Int)) < (((xs.map Frame.cells).length : Int)))))]⟩) (y_bin rfl (e rfl rfl) (e rfl rfl) (fun _ => b_lss) rfl) rfl rfl ?_
  refine s_end ?_
  refine v_cond (e rfl rfl) (fun hb1 => ?_) fun hb1 => ?_
  · have hlt : i < xs.length := by have := hb1; simp at this; omega
    obtain ⟨x, hxi⟩ := some_of_lt hlt
    have hkl : kTo mkFrame xs k i < 9223372036854775808 := kTo_lt mkFrame_lt hk
    generalize hk0 : kTo mkFrame xs k i = k0
    rw [hk0] at hkl
    refine v_skip ?_
    refine v_seq ?_
    refine v_block ?_
    refine v_seq ?_
    refine v_reg ?_
    refine sy _ (zmv rfl (e rfl rfl)) rfl rfl ?_
    refine sy _ (zmv rfl (e rfl rfl)) rfl rfl ?_
    refine sy _ (zmv rfl (e rfl rfl)) rfl rfl ?_
    refine sd (.t ⟨false, [.d (dS (mt k0))]⟩) (zcall 1 (sc (dS (mt k0))) [] rfl (tr_markText k0 hkl) (ar (e rfl rfl) (.d .nil) .nil) rfl rfl rfl) rfl rfl rfl rfl ?_
    refine sy (.t ⟨false, [.ep 0 0 i 0]⟩) (zis tabOk rfl rfl rfl (e rfl rfl) rfl (e rfl rfl) (ltm_of_some hxi) (Nat.zero_add _)) rfl rfl ?_
    refine sy (.t ⟨false, [.ep 0 0 i 0]⟩) (zfa tabOk rfl rfl rfl (e rfl rfl) rfl rfl) rfl rfl ?_
    refine sy (.t ⟨false, [.ep 0 0 i 0]⟩) (zfa tabOk rfl rfl rfl (e rfl rfl) rfl rfl) rfl rfl ?_
    refine sw 0 (.row 15 (((mkTo mkFrame xs k i).map Frame.cells).set i [dS (mt k0), dI (x.Ask.Typ), dS (x.Q.Name), dI (x.Q.Typ), .sl 6 (x.Links.map Record.cells), dS (x.Apex), .sl 1 (x.Servers.map encI), .sl 1 (x.Need.map encS), dI (x.Down), dI (x.Left), dI (x.Pc), dI (x.X.Id), dI (x.X.Addr), dI (x.X.Try), dI (x.X.Due)]) true 0 0) (zsr0 tabOk rfl (e rfl rfl) rfl (mkTo_get hxi) (e rfl rfl) rfl (.lf .nil) rfl rfl rfl) rfl rfl ?_
    refine s_end ?_
    refine v_seq ?_
    refine v_reg ?_
    refine sy _ (zmv rfl (e rfl rfl)) rfl rfl ?_
    refine sy (.t ⟨false, [.d (dI (nx k0))]⟩) (y_bin rfl (e rfl rfl) (ec rfl) (fun _ => b_nx) rfl) rfl rfl ?_
    refine sy _ (zas rfl (e rfl rfl)) rfl rfl ?_
    have hl1 : nx k0 < 9223372036854775808 := nx_lt _
    generalize hk1 : nx k0 = k1 at hl1 ⊢
    refine s_end ?_
    refine v_seq ?_
    refine v_reg ?_
    refine sy _ (zmv rfl (e rfl rfl)) rfl rfl ?_
    refine sy _ (zmv rfl (e rfl rfl)) rfl rfl ?_
    refine sy _ (zmv rfl (e rfl rfl)) rfl rfl ?_
    refine sy (.t ⟨false, [.ep 0 0 i 0]⟩) (zis tabOk rfl rfl rfl (e rfl rfl) rfl (e rfl rfl) (ltm_of_some hxi) (Nat.zero_add _)) rfl rfl ?_
    refine sy (.t ⟨false, [.ep 0 0 i 0]⟩) (zfa tabOk rfl rfl rfl (e rfl rfl) rfl rfl) rfl rfl ?_
    refine sy (.t ⟨false, [.ep 0 0 i 1]⟩) (zfa tabOk rfl rfl rfl (e rfl rfl) rfl rfl) rfl rfl ?_
    refine sw 0 (.row 15 (((mkTo mkFrame xs k i).map Frame.cells).set i [dS (mt k0), dI (k1), dS (x.Q.Name), dI (x.Q.Typ), .sl 6 (x.Links.map Record.cells), dS (x.Apex), .sl 1 (x.Servers.map encI), .sl 1 (x.Need.map encS), dI (x.Down), dI (x.Left), dI (x.Pc), dI (x.X.Id), dI (x.X.Addr), dI (x.X.Try), dI (x.X.Due)]) true 0 0) (zsr0 tabOk rfl (e rfl rfl) rfl (set_get (mkTo_lt hxi)) (e rfl rfl) rfl (.lf .nil) rfl rfl (List.set_set _)) rfl rfl ?_
    refine s_end ?_
    refine v_seq ?_
    refine v_reg ?_
    refine sy _ (zmv rfl (e rfl rfl)) rfl rfl ?_
    refine sy (.t ⟨false, [.d (dI (nx k1))]⟩) (y_bin rfl (e rfl rfl) (ec rfl) (fun _ => b_nx) rfl) rfl rfl ?_
    refine sy _ (zas rfl (e rfl rfl)) rfl rfl ?_
    have hl2 : nx k1 < 9223372036854775808 := nx_lt _
    generalize hk2 : nx k1 = k2 at hl2 ⊢
    refine s_end ?_
    refine v_seq ?_
    refine v_reg ?_
    refine sy _ (zmv rfl (e rfl rfl)) rfl rfl ?_
    refine sy _ (zmv rfl (e rfl rfl)) rfl rfl ?_
    refine sy _ (zmv rfl (e rfl rfl)) rfl rfl ?_
    refine sd (.t ⟨false, [.d (dS (mt k2))]⟩) (zcall 1 (sc (dS (mt k2))) [] rfl (tr_markText k2 hl2) (ar (e rfl rfl) (.d .nil) .nil) rfl rfl rfl) rfl rfl rfl rfl ?_
    refine sy (.t ⟨false, [.ep 0 0 i 0]⟩) (zis tabOk rfl rfl rfl (e rfl rfl) rfl (e rfl rfl) (ltm_of_some hxi) (Nat.zero_add _)) rfl rfl ?_
    refine sy (.t ⟨false, [.ep 0 0 i 2]⟩) (zfa tabOk rfl rfl rfl (e rfl rfl) rfl rfl) rfl rfl ?_
    refine sy (.t ⟨false, [.ep 0 0 i 2]⟩) (zfa tabOk rfl rfl rfl (e rfl rfl) rfl rfl) rfl rfl ?_
    refine sw 0 (.row 15 (((mkTo mkFrame xs k i).map Frame.cells).set i [dS (mt k0), dI (k1), dS (mt k2), dI (x.Q.Typ), .sl 6 (x.Links.map Record.cells), dS (x.Apex), .sl 1 (x.Servers.map encI), .sl 1 (x.Need.map encS), dI (x.Down), dI (x.Left), dI (x.Pc), dI (x.X.Id), dI (x.X.Addr), dI (x.X.Try), dI (x.X.Due)]) true 0 0) (zsr0 tabOk rfl (e rfl rfl) rfl (set_get (mkTo_lt hxi)) (e rfl rfl) rfl (.lf .nil) rfl rfl (List.set_set _)) rfl rfl ?_
    refine s_end ?_
    refine v_seq ?_
    refine v_reg ?_
    refine sy _ (zmv rfl (e rfl rfl)) rfl rfl ?_
    refine sy (.t ⟨false, [.d (dI (nx k2))]⟩) (y_bin rfl (e rfl rfl) (ec rfl) (fun _ => b_nx) rfl) rfl rfl ?_
    refine sy _ (zas rfl (e rfl rfl)) rfl rfl ?_
    have hl3 : nx k2 < 9223372036854775808 := nx_lt _
    generalize hk3 : nx k2 = k3 at hl3 ⊢
    refine s_end ?_
    refine v_seq ?_
    refine v_reg ?_
    refine sy _ (zmv rfl (e rfl rfl)) rfl rfl ?_
    refine sy _ (zmv rfl (e rfl rfl)) rfl rfl ?_
    refine sy _ (zmv rfl (e rfl rfl)) rfl rfl ?_
    refine sy (.t ⟨false, [.ep 0 0 i 0]⟩) (zis tabOk rfl rfl rfl (e rfl rfl) rfl (e rfl rfl) (ltm_of_some hxi) (Nat.zero_add _)) rfl rfl ?_
    refine sy (.t ⟨false, [.ep 0 0 i 2]⟩) (zfa tabOk rfl rfl rfl (e rfl rfl) rfl rfl) rfl rfl ?_
    refine sy (.t ⟨false, [.ep 0 0 i 3]⟩) (zfa tabOk rfl rfl rfl (e rfl rfl) rfl rfl) rfl rfl ?_
    refine sw 0 (.row 15 (((mkTo mkFrame xs k i).map Frame.cells).set i [dS (mt k0), dI (k1), dS (mt k2), dI (k3), .sl 6 (x.Links.map Record.cells), dS (x.Apex), .sl 1 (x.Servers.map encI), .sl 1 (x.Need.map encS), dI (x.Down), dI (x.Left), dI (x.Pc), dI (x.X.Id), dI (x.X.Addr), dI (x.X.Try), dI (x.X.Due)]) true 0 0) (zsr0 tabOk rfl (e rfl rfl) rfl (set_get (mkTo_lt hxi)) (e rfl rfl) rfl (.lf .nil) rfl rfl (List.set_set _)) rfl rfl ?_
    refine s_end ?_
    refine v_seq ?_
    refine v_reg ?_
    refine sy _ (zmv rfl (e rfl rfl)) rfl rfl ?_
    refine sy (.t ⟨false, [.d (dI (nx k3))]⟩) (y_bin rfl (e rfl rfl) (ec rfl) (fun _ => b_nx) rfl) rfl rfl ?_
    refine sy _ (zas rfl (e rfl rfl)) rfl rfl ?_
    have hl4 : nx k3 < 9223372036854775808 := nx_lt _
    generalize hk4 : nx k3 = k4 at hl4 ⊢
    refine s_end ?_
    refine v_seq ?_
    refine v_reg ?_
    refine sy _ (zmv rfl (e rfl rfl)) rfl rfl ?_
    refine sy _ (zmv rfl (e rfl rfl)) rfl rfl ?_
    refine sy (.t ⟨false, [.ep 0 0 i 0]⟩) (zis tabOk rfl rfl rfl (e rfl rfl) rfl (e rfl rfl) (ltm_of_some hxi) (Nat.zero_add _)) rfl rfl ?_
    refine sy (.t ⟨false, [.ep 0 0 i 4]⟩) (zfa tabOk rfl rfl rfl (e rfl rfl) rfl rfl) rfl rfl ?_
    refine sy (.t ⟨false, [.nr 0 0 i 4]⟩) (zlr tabOk rfl (e rfl rfl) rfl (set_get (mkTo_lt hxi)) rfl rfl) rfl rfl ?_
    refine sy _ (zmv rfl (e rfl rfl)) rfl rfl ?_
    refine sd (.t ⟨false, [.d (dI ((mkL mkRecord x.Links k4).2))]⟩) (zcall 1 (sc (dI (mkL mkRecord x.Links k4).2)) [(0, .row 15 (((mkTo mkFrame xs k i).map Frame.cells).set i [dS (mt k0), dI (k1), dS (mt k2), dI (k3), .sl 6 ((mkL mkRecord x.Links k4).1.map Record.cells), dS (x.Apex), .sl 1 (x.Servers.map encI), .sl 1 (x.Need.map encS), dI (x.Down), dI (x.Left), dI (x.Pc), dI (x.X.Id), dI (x.X.Addr), dI (x.X.Try), dI (x.X.Due)]) true 0 0)] rfl (tr_markRecordS x.Links ((hx.2 _ (List.mem_of_getElem? hxi)).Links) k4 hl4) (ae (e rfl rfl) rfl rfl (set_get (mkTo_lt hxi)) rfl rfl sh1 rfl (ar (e rfl rfl) (.d .nil) .nil)) rfl rfl (congrArg (fun l => [(0, VO.row 15 l true 0 0)]) (List.set_set _))) rfl rfl rfl rfl ?_
    refine sy _ (zas rfl (e rfl rfl)) rfl rfl ?_
    have hl5 : (mkL mkRecord x.Links k4).2 < 9223372036854775808 := mkL_lt mkRecord_lt hl4
    generalize hk5 : (mkL mkRecord x.Links k4).2 = k5 at hl5 ⊢
    refine s_end ?_
    refine v_seq ?_
    refine v_reg ?_
    refine sy _ (zmv rfl (e rfl rfl)) rfl rfl ?_
    refine sy _ (zmv rfl (e rfl rfl)) rfl rfl ?_
    refine sy _ (zmv rfl (e rfl rfl)) rfl rfl ?_
    refine sd (.t ⟨false, [.d (dS (mt k5))]⟩) (zcall 1 (sc (dS (mt k5))) [] rfl (tr_markText k5 hl5) (ar (e rfl rfl) (.d .nil) .nil) rfl rfl rfl) rfl rfl rfl rfl ?_
    refine sy (.t ⟨false, [.ep 0 0 i 0]⟩) (zis tabOk rfl rfl rfl (e rfl rfl) rfl (e rfl rfl) (ltm_of_some hxi) (Nat.zero_add _)) rfl rfl ?_
    refine sy (.t ⟨false, [.ep 0 0 i 5]⟩) (zfa tabOk rfl rfl rfl (e rfl rfl) rfl rfl) rfl rfl ?_
    refine sw 0 (.row 15 (((mkTo mkFrame xs k i).map Frame.cells).set i [dS (mt k0), dI (k1), dS (mt k2), dI (k3), .sl 6 ((mkL mkRecord x.Links k4).1.map Record.cells), dS (mt k5), .sl 1 (x.Servers.map encI), .sl 1 (x.Need.map encS), dI (x.Down), dI (x.Left), dI (x.Pc), dI (x.X.Id), dI (x.X.Addr), dI (x.X.Try), dI (x.X.Due)]) true 0 0) (zsr0 tabOk rfl (e rfl rfl) rfl (set_get (mkTo_lt hxi)) (e rfl rfl) rfl (.lf .nil) rfl rfl (List.set_set _)) rfl rfl ?_
    refine s_end ?_
    refine v_seq ?_
    refine v_reg ?_
    refine sy _ (zmv rfl (e rfl rfl)) rfl rfl ?_
    refine sy (.t ⟨false, [.d (dI (nx k5))]⟩) (y_bin rfl (e rfl rfl) (ec rfl) (fun _ => b_nx) rfl) rfl rfl ?_
    refine sy _ (zas rfl (e rfl rfl)) rfl rfl ?_
    have hl6 : nx k5 < 9223372036854775808 := nx_lt _
    generalize hk6 : nx k5 = k6 at hl6 ⊢
    refine s_end ?_
    refine v_seq ?_
    refine v_reg ?_
    refine sy _ (zmv rfl (e rfl rfl)) rfl rfl ?_
    refine sy _ (zmv rfl (e rfl rfl)) rfl rfl ?_
    refine sy (.t ⟨false, [.ep 0 0 i 0]⟩) (zis tabOk rfl rfl rfl (e rfl rfl) rfl (e rfl rfl) (ltm_of_some hxi) (Nat.zero_add _)) rfl rfl ?_
    refine sy (.t ⟨false, [.ep 0 0 i 6]⟩) (zfa tabOk rfl rfl rfl (e rfl rfl) rfl rfl) rfl rfl ?_
    refine sy (.t ⟨false, [.nr 0 0 i 6]⟩) (zlr tabOk rfl (e rfl rfl) rfl (set_get (mkTo_lt hxi)) rfl rfl) rfl rfl ?_
    refine sy _ (zmv rfl (e rfl rfl)) rfl rfl ?_
    refine sd (.t ⟨false, [.d (dI ((mkL mkI x.Servers k6).2))]⟩) (zcall 1 (sc (dI (mkL mkI x.Servers k6).2)) [(0, .row 15 (((mkTo mkFrame xs k i).map Frame.cells).set i [dS (mt k0), dI (k1), dS (mt k2), dI (k3), .sl 6 ((mkL mkRecord x.Links k4).1.map Record.cells), dS (mt k5), .sl 1 ((mkL mkI x.Servers k6).1.map encI), .sl 1 (x.Need.map encS), dI (x.Down), dI (x.Left), dI (x.Pc), dI (x.X.Id), dI (x.X.Addr), dI (x.X.Try), dI (x.X.Due)]) true 0 0)] rfl (tr_markIntS x.Servers ((hx.2 _ (List.mem_of_getElem? hxi)).Servers) k6 hl6) (ae (e rfl rfl) rfl rfl (set_get (mkTo_lt hxi)) rfl rfl sh1 rfl (ar (e rfl rfl) (.d .nil) .nil)) rfl rfl (congrArg (fun l => [(0, VO.row 15 l true 0 0)]) (List.set_set _))) rfl rfl rfl rfl ?_
    refine sy _ (zas rfl (e rfl rfl)) rfl rfl ?_
    have hl7 : (mkL mkI x.Servers k6).2 < 9223372036854775808 := mkL_lt mkI_lt hl6
    generalize hk7 : (mkL mkI x.Servers k6).2 = k7 at hl7 ⊢
    refine s_end ?_
    refine v_seq ?_
    refine v_reg ?_
    refine sy _ (zmv rfl (e rfl rfl)) rfl rfl ?_
    refine sy _ (zmv rfl (e rfl rfl)) rfl rfl ?_
    refine sy (.t ⟨false, [.ep 0 0 i 0]⟩) (zis tabOk rfl rfl rfl (e rfl rfl) rfl (e rfl rfl) (ltm_of_some hxi) (Nat.zero_add _)) rfl rfl ?_
    refine sy (.t ⟨false, [.ep 0 0 i 7]⟩) (zfa tabOk rfl rfl rfl (e rfl rfl) rfl rfl) rfl rfl ?_
    refine sy (.t ⟨false, [.nr 0 0 i 7]⟩) (zlr tabOk rfl (e rfl rfl) rfl (set_get (mkTo_lt hxi)) rfl rfl) rfl rfl ?_
    refine sy _ (zmv rfl (e rfl rfl)) rfl rfl ?_
    refine sd (.t ⟨false, [.d (dI ((mkL mkS x.Need k7).2))]⟩) (zcall 1 (sc (dI (mkL mkS x.Need k7).2)) [(0, .row 15 (((mkTo mkFrame xs k i).map Frame.cells).set i [dS (mt k0), dI (k1), dS (mt k2), dI (k3), .sl 6 ((mkL mkRecord x.Links k4).1.map Record.cells), dS (mt k5), .sl 1 ((mkL mkI x.Servers k6).1.map encI), .sl 1 ((mkL mkS x.Need k7).1.map encS), dI (x.Down), dI (x.Left), dI (x.Pc), dI (x.X.Id), dI (x.X.Addr), dI (x.X.Try), dI (x.X.Due)]) true 0 0)] rfl (tr_markStringS x.Need ((hx.2 _ (List.mem_of_getElem? hxi)).Need) k7 hl7) (ae (e rfl rfl) rfl rfl (set_get (mkTo_lt hxi)) rfl rfl sh1 rfl (ar (e rfl rfl) (.d .nil) .nil)) rfl rfl (congrArg (fun l => [(0, VO.row 15 l true 0 0)]) (List.set_set _))) rfl rfl rfl rfl ?_
    refine sy _ (zas rfl (e rfl rfl)) rfl rfl ?_
    have hl8 : (mkL mkS x.Need k7).2 < 9223372036854775808 := mkL_lt mkS_lt hl7
    generalize hk8 : (mkL mkS x.Need k7).2 = k8 at hl8 ⊢
    refine s_end ?_
    refine v_seq ?_
    refine v_reg ?_
    refine sy _ (zmv rfl (e rfl rfl)) rfl rfl ?_
    refine sy _ (zmv rfl (e rfl rfl)) rfl rfl ?_
    refine sy _ (zmv rfl (e rfl rfl)) rfl rfl ?_
    refine sy (.t ⟨false, [.ep 0 0 i 0]⟩) (zis tabOk rfl rfl rfl (e rfl rfl) rfl (e rfl rfl) (ltm_of_some hxi) (Nat.zero_add _)) rfl rfl ?_
    refine sy (.t ⟨false, [.ep 0 0 i 8]⟩) (zfa tabOk rfl rfl rfl (e rfl rfl) rfl rfl) rfl rfl ?_
    refine sw 0 (.row 15 (((mkTo mkFrame xs k i).map Frame.cells).set i [dS (mt k0), dI (k1), dS (mt k2), dI (k3), .sl 6 ((mkL mkRecord x.Links k4).1.map Record.cells), dS (mt k5), .sl 1 ((mkL mkI x.Servers k6).1.map encI), .sl 1 ((mkL mkS x.Need k7).1.map encS), dI (k8), dI (x.Left), dI (x.Pc), dI (x.X.Id), dI (x.X.Addr), dI (x.X.Try), dI (x.X.Due)]) true 0 0) (zsr0 tabOk rfl (e rfl rfl) rfl (set_get (mkTo_lt hxi)) (e rfl rfl) rfl (.lf .nil) rfl rfl (List.set_set _)) rfl rfl ?_
    refine s_end ?_
    refine v_seq ?_
    refine v_reg ?_
    refine sy _ (zmv rfl (e rfl rfl)) rfl rfl ?_
    refine sy (.t ⟨false, [.d (dI (nx k8))]⟩) (y_bin rfl (e rfl rfl) (ec rfl) (fun _ => b_nx) rfl) rfl rfl ?_
    refine sy _ (zas rfl (e rfl rfl)) rfl rfl ?_
    have hl9 : nx k8 < 9223372036854775808 := nx_lt _
    generalize hk9 : nx k8 = k9 at hl9 ⊢
    refine s_end ?_
    refine v_seq ?_
    refine v_reg ?_
    refine sy _ (zmv rfl (e rfl rfl)) rfl rfl ?_
    refine sy _ (zmv rfl (e rfl rfl)) rfl rfl ?_
    refine sy _ (zmv rfl (e rfl rfl)) rfl rfl ?_
    refine sy (.t ⟨false, [.ep 0 0 i 0]⟩) (zis tabOk rfl rfl rfl (e rfl rfl) rfl (e rfl rfl) (ltm_of_some hxi) (Nat.zero_add _)) rfl rfl ?_
    refine sy (.t ⟨false, [.ep 0 0 i 9]⟩) (zfa tabOk rfl rfl rfl (e rfl rfl) rfl rfl) rfl rfl ?_
    refine sw 0 (.row 15 (((mkTo mkFrame xs k i).map Frame.cells).set i [dS (mt k0), dI (k1), dS (mt k2), dI (k3), .sl 6 ((mkL mkRecord x.Links k4).1.map Record.cells), dS (mt k5), .sl 1 ((mkL mkI x.Servers k6).1.map encI), .sl 1 ((mkL mkS x.Need k7).1.map encS), dI (k8), dI (k9), dI (x.Pc), dI (x.X.Id), dI (x.X.Addr), dI (x.X.Try), dI (x.X.Due)]) true 0 0) (zsr0 tabOk rfl (e rfl rfl) rfl (set_get (mkTo_lt hxi)) (e rfl rfl) rfl (.lf .nil) rfl rfl (List.set_set _)) rfl rfl ?_
    refine s_end ?_
    refine v_seq ?_
    refine v_reg ?_
    refine sy _ (zmv rfl (e rfl rfl)) rfl rfl ?_
    refine sy (.t ⟨false, [.d (dI (nx k9))]⟩) (y_bin rfl (e rfl rfl) (ec rfl) (fun _ => b_nx) rfl) rfl rfl ?_
    refine sy _ (zas rfl (e rfl rfl)) rfl rfl ?_
    have hl10 : nx k9 < 9223372036854775808 := nx_lt _
    generalize hk10 : nx k9 = k10 at hl10 ⊢
    refine s_end ?_
    refine v_seq ?_
    refine v_reg ?_
    refine sy _ (zmv rfl (e rfl rfl)) rfl rfl ?_
    refine sy _ (zmv rfl (e rfl rfl)) rfl rfl ?_
    refine sy _ (zmv rfl (e rfl rfl)) rfl rfl ?_
    refine sy (.t ⟨false, [.ep 0 0 i 0]⟩) (zis tabOk rfl rfl rfl (e rfl rfl) rfl (e rfl rfl) (ltm_of_some hxi) (Nat.zero_add _)) rfl rfl ?_
    refine sy (.t ⟨false, [.ep 0 0 i 10]⟩) (zfa tabOk rfl rfl rfl (e rfl rfl) rfl rfl) rfl rfl ?_
    refine sw 0 (.row 15 (((mkTo mkFrame xs k i).map Frame.cells).set i [dS (mt k0), dI (k1), dS (mt k2), dI (k3), .sl 6 ((mkL mkRecord x.Links k4).1.map Record.cells), dS (mt k5), .sl 1 ((mkL mkI x.Servers k6).1.map encI), .sl 1 ((mkL mkS x.Need k7).1.map encS), dI (k8), dI (k9), dI (k10), dI (x.X.Id), dI (x.X.Addr), dI (x.X.Try), dI (x.X.Due)]) true 0 0) (zsr0 tabOk rfl (e rfl rfl) rfl (set_get (mkTo_lt hxi)) (e rfl rfl) rfl (.lf .nil) rfl rfl (List.set_set _)) rfl rfl ?_
    refine s_end ?_
    refine v_seq ?_
    refine v_reg ?_
    refine sy _ (zmv rfl (e rfl rfl)) rfl rfl ?_
    refine sy (.t ⟨false, [.d (dI (nx k10))]⟩) (y_bin rfl (e rfl rfl) (ec rfl) (fun _ => b_nx) rfl) rfl rfl ?_
    refine sy _ (zas rfl (e rfl rfl)) rfl rfl ?_
    have hl11 : nx k10 < 9223372036854775808 := nx_lt _
    generalize hk11 : nx k10 = k11 at hl11 ⊢
    refine s_end ?_
    refine v_seq ?_
    refine v_reg ?_
    refine sy _ (zmv rfl (e rfl rfl)) rfl rfl ?_
    refine sy _ (zmv rfl (e rfl rfl)) rfl rfl ?_
    refine sy _ (zmv rfl (e rfl rfl)) rfl rfl ?_
    refine sy (.t ⟨false, [.ep 0 0 i 0]⟩) (zis tabOk rfl rfl rfl (e rfl rfl) rfl (e rfl rfl) (ltm_of_some hxi) (Nat.zero_add _)) rfl rfl ?_
    refine sy (.t ⟨false, [.ep 0 0 i 11]⟩) (zfa tabOk rfl rfl rfl (e rfl rfl) rfl rfl) rfl rfl ?_
    refine sy (.t ⟨false, [.ep 0 0 i 11]⟩) (zfa tabOk rfl rfl rfl (e rfl rfl) rfl rfl) rfl rfl ?_
    refine sw 0 (.row 15 (((mkTo mkFrame xs k i).map Frame.cells).set i [dS (mt k0), dI (k1), dS (mt k2), dI (k3), .sl 6 ((mkL mkRecord x.Links k4).1.map Record.cells), dS (mt k5), .sl 1 ((mkL mkI x.Servers k6).1.map encI), .sl 1 ((mkL mkS x.Need k7).1.map encS), dI (k8), dI (k9), dI (k10), dI (k11), dI (x.X.Addr), dI (x.X.Try), dI (x.X.Due)]) true 0 0) (zsr0 tabOk rfl (e rfl rfl) rfl (set_get (mkTo_lt hxi)) (e rfl rfl) rfl (.lf .nil) rfl rfl (List.set_set _)) rfl rfl ?_
    refine s_end ?_
    refine v_seq ?_
    refine v_reg ?_
    refine sy _ (zmv rfl (e rfl rfl)) rfl rfl ?_
    refine sy (.t ⟨false, [.d (dI (nx k11))]⟩) (y_bin rfl (e rfl rfl) (ec rfl) (fun _ => b_nx) rfl) rfl rfl ?_
    refine sy _ (zas rfl (e rfl rfl)) rfl rfl ?_
    have hl12 : nx k11 < 9223372036854775808 := nx_lt _
    generalize hk12 : nx k11 = k12 at hl12 ⊢
    refine s_end ?_
    refine v_seq ?_
    refine v_reg ?_
    refine sy _ (zmv rfl (e rfl rfl)) rfl rfl ?_
    refine sy _ (zmv rfl (e rfl rfl)) rfl rfl ?_
    refine sy _ (zmv rfl (e rfl rfl)) rfl rfl ?_
    refine sy (.t ⟨false, [.ep 0 0 i 0]⟩) (zis tabOk rfl rfl rfl (e rfl rfl) rfl (e rfl rfl) (ltm_of_some hxi) (Nat.zero_add _)) rfl rfl ?_
    refine sy (.t ⟨false, [.ep 0 0 i 11]⟩) (zfa tabOk rfl rfl rfl (e rfl rfl) rfl rfl) rfl rfl ?_
    refine sy (.t ⟨false, [.ep 0 0 i 12]⟩) (zfa tabOk rfl rfl rfl (e rfl rfl) rfl rfl) rfl rfl ?_
    refine sw 0 (.row 15 (((mkTo mkFrame xs k i).map Frame.cells).set i [dS (mt k0), dI (k1), dS (mt k2), dI (k3), .sl 6 ((mkL mkRecord x.Links k4).1.map Record.cells), dS (mt k5), .sl 1 ((mkL mkI x.Servers k6).1.map encI), .sl 1 ((mkL mkS x.Need k7).1.map encS), dI (k8), dI (k9), dI (k10), dI (k11), dI (k12), dI (x.X.Try), dI (x.X.Due)]) true 0 0) (zsr0 tabOk rfl (e rfl rfl) rfl (set_get (mkTo_lt hxi)) (e rfl rfl) rfl (.lf .nil) rfl rfl (List.set_set _)) rfl rfl ?_
    refine s_end ?_
    refine v_seq ?_
    refine v_reg ?_
    refine sy _ (zmv rfl (e rfl rfl)) rfl rfl ?_
    refine sy (.t ⟨false, [.d (dI (nx k12))]⟩) (y_bin rfl (e rfl rfl) (ec rfl) (fun _ => b_nx) rfl) rfl rfl ?_
    refine sy _ (zas rfl (e rfl rfl)) rfl rfl ?_
    have hl13 : nx k12 < 9223372036854775808 := nx_lt _
    generalize hk13 : nx k12 = k13 at hl13 ⊢
    refine s_end ?_
    refine v_seq ?_
    refine v_reg ?_
    refine sy _ (zmv rfl (e rfl rfl)) rfl rfl ?_
    refine sy _ (zmv rfl (e rfl rfl)) rfl rfl ?_
    refine sy _ (zmv rfl (e rfl rfl)) rfl rfl ?_
    refine sy (.t ⟨false, [.ep 0 0 i 0]⟩) (zis tabOk rfl rfl rfl (e rfl rfl) rfl (e rfl rfl) (ltm_of_some hxi) (Nat.zero_add _)) rfl rfl ?_
    refine sy (.t ⟨false, [.ep 0 0 i 11]⟩) (zfa tabOk rfl rfl rfl (e rfl rfl) rfl rfl) rfl rfl ?_
    refine sy (.t ⟨false, [.ep 0 0 i 13]⟩) (zfa tabOk rfl rfl rfl (e rfl rfl) rfl rfl) rfl rfl ?_
    refine sw 0 (.row 15 (((mkTo mkFrame xs k i).map Frame.cells).set i [dS (mt k0), dI (k1), dS (mt k2), dI (k3), .sl 6 ((mkL mkRecord x.Links k4).1.map Record.cells), dS (mt k5), .sl 1 ((mkL mkI x.Servers k6).1.map encI), .sl 1 ((mkL mkS x.Need k7).1.map encS), dI (k8), dI (k9), dI (k10), dI (k11), dI (k12), dI (k13), dI (x.X.Due)]) true 0 0) (zsr0 tabOk rfl (e rfl rfl) rfl (set_get (mkTo_lt hxi)) (e rfl rfl) rfl (.lf .nil) rfl rfl (List.set_set _)) rfl rfl ?_
    refine s_end ?_
    refine v_seq ?_
    refine v_reg ?_
    refine sy _ (zmv rfl (e rfl rfl)) rfl rfl ?_
    refine sy (.t ⟨false, [.d (dI (nx k13))]⟩) (y_bin rfl (e rfl rfl) (ec rfl) (fun _ => b_nx) rfl) rfl rfl ?_
    refine sy _ (zas rfl (e rfl rfl)) rfl rfl ?_
    have hl14 : nx k13 < 9223372036854775808 := nx_lt _
    generalize hk14 : nx k13 = k14 at hl14 ⊢
    refine s_end ?_
    refine v_seq ?_
    refine v_reg ?_
    refine sy _ (zmv rfl (e rfl rfl)) rfl rfl ?_
    refine sy _ (zmv rfl (e rfl rfl)) rfl rfl ?_
    refine sy _ (zmv rfl (e rfl rfl)) rfl rfl ?_
    refine sy (.t ⟨false, [.ep 0 0 i 0]⟩) (zis tabOk rfl rfl rfl (e rfl rfl) rfl (e rfl rfl) (ltm_of_some hxi) (Nat.zero_add _)) rfl rfl ?_
    refine sy (.t ⟨false, [.ep 0 0 i 11]⟩) (zfa tabOk rfl rfl rfl (e rfl rfl) rfl rfl) rfl rfl ?_
    refine sy (.t ⟨false, [.ep 0 0 i 14]⟩) (zfa tabOk rfl rfl rfl (e rfl rfl) rfl rfl) rfl rfl ?_
    refine sw 0 (.row 15 (((mkTo mkFrame xs k i).map Frame.cells).set i [dS (mt k0), dI (k1), dS (mt k2), dI (k3), .sl 6 ((mkL mkRecord x.Links k4).1.map Record.cells), dS (mt k5), .sl 1 ((mkL mkI x.Servers k6).1.map encI), .sl 1 ((mkL mkS x.Need k7).1.map encS), dI (k8), dI (k9), dI (k10), dI (k11), dI (k12), dI (k13), dI (k14)]) true 0 0) (zsr0 tabOk rfl (e rfl rfl) rfl (set_get (mkTo_lt hxi)) (e rfl rfl) rfl (.lf .nil) rfl rfl (List.set_set _)) rfl rfl ?_
    refine s_end ?_
    refine v_reg ?_
    refine sy _ (zmv rfl (e rfl rfl)) rfl rfl ?_
    refine sy (.t ⟨false, [.d (dI (nx k14))]⟩) (y_bin rfl (e rfl rfl) (ec rfl) (fun _ => b_nx) rfl) rfl rfl ?_
    refine sy _ (zas rfl (e rfl rfl)) rfl rfl ?_
    have hl15 : nx k14 < 9223372036854775808 := nx_lt _
    generalize hk15 : nx k14 = k15 at hl15 ⊢
    refine s_end ?_
    refine blk_norm ?_
    refine v_reg ?_
    refine sy _ (zmv rfl (e rfl rfl)) rfl rfl ?_
    refine sy (.t ⟨false, [.d (dI ((i : Int) + 1))]⟩) (y_bin rfl (e rfl rfl) (ec rfl) (fun _ => b_addn (by omega) (by omega)) rfl) rfl rfl ?_
    refine sy _ (zas rfl (e rfl rfl)) rfl rfl ?_
    refine s_end ?_
    subst hk0 hk1 hk2 hk3 hk4 hk5 hk6 hk7 hk8 hk9 hk10 hk11 hk12 hk13 hk14 hk15
    exact lp_next (i + 1) hlt (by omega) ⟨rfl, congrArg (fun v => sc (dI v)) (kTo_succ (f := mkFrame) hxi).symm, rfl, trivial⟩ ⟨congrArg (fun l => VO.row 15 l true 0 0) (mkTo_set (f := mkFrame) (c := Frame.cells) hxi), trivial⟩ rfl
  have hend : i = xs.length := by have := hb1; simp at this; omega
  refine v_exit ?_
  refine then_exit ?_
  refine loop_exit ?_
  refine blk_hit ?_
  refine v_seq ?_
  refine v_reg ?_
  refine sy _ (zmv rfl (e rfl rfl)) rfl rfl ?_
  refine sy _ (zas rfl (e rfl rfl)) rfl rfl ?_
  refine s_end ?_
  refine v_ret ?_
  have e1 : kTo mkFrame xs k i = (mkL mkFrame xs k).2 := kTo_end hend
  have e2 : ((mkTo mkFrame xs k i).map Frame.cells) = (mkL mkFrame xs k).1.map Frame.cells := by rw [mkTo_end hend]
  rw [← e1, ← e2]
  exact post_ret (rv (.tmp (eg rfl rfl)) rfl (.lf .nil) rfl .nil) (.mu rfl (.sl rfl (by rw [List.length_map, List.length_map, mkTo_len]) .nil) (.ro .nil)) rfl
set_option maxRecDepth 20000 in
theorem tr_heldFrameS (xs ys : List Frame) (hx : fitL Frame.Fit xs) (k : Int) (h0 : 0 ≤ k) (h1 : k + 16 * (wtL Frame.wt xs : Int) < 4611686018427387904) (hys : ys = (mkL mkFrame xs k).1) : Tr Try.prog 83 [.ro (one (.sl 15 (ys.map Frame.cells))), .ro (one (dI k))] [one (dI (mkL mkFrame xs k).2)] := by
  have hlen : ys.length = xs.length := by rw [hys, mkL_len]
  refine tr_go tabOk Try.func83 rfl rfl rfl rfl rfl (ov := [(0, .t ⟨false, [.d (.sl 15 (ys.map Frame.cells))]⟩), (1, .t ⟨false, [.d (dI (k))]⟩)]) (hv := []) rfl rfl ?_
  refine v_seq ?_
  refine v_reg ?_
  refine sy _ (zas rfl (ec rfl)) rfl rfl ?_
  refine s_end ?_
  refine v_seq ?_
  refine v_seq ?_
  refine v_reg ?_
  refine sy _ (zas rfl (ec rfl)) rfl rfl ?_
  refine s_end ?_
  refine v_block ?_
  have hB := hx.1
  refine v_lp (fun (i : Nat) => [(0, .t ⟨false, [.d (.sl 15 (ys.map Frame.cells))]⟩), (1, .t ⟨false, [.d (dI (kTo mkFrame xs k i))]⟩), (5, .t ⟨false, [.d (dI (i : Int))]⟩)]) (fun _ => []) (fun i => i ≤ xs.length) (fun i => xs.length - i) 0 (Nat.zero_le _) ⟨rfl, congrArg (fun v => sc (dI v)) kTo_zero.symm, rfl, trivial⟩ trivial rfl (fun i hi => ?_)
  refine v_seq ?_
  refine v_seq ?_
  refine v_reg ?_
  refine sy _ (zmv rfl (e rfl rfl)) rfl rfl ?_
  refine sy _ (zmv rfl (e rfl rfl)) rfl rfl ?_
  refine sy (.t ⟨false, [.d (dI ((ys.map Frame.cells).length : Int))]⟩) (zln tabOk rfl rfl (e rfl rfl) .d) rfl rfl ?_
  refine sy (.t ⟨false, [.d (dB (decide (((i : Int)) < (((ys.map Frame.cells).length : Int)))))]⟩) (y_bin rfl (e rfl rfl) (e rfl rfl) (fun _ => b_lss) rfl) rfl rfl ?_
  refine s_end ?_
  refine v_cond (e rfl rfl) (fun hb1 => ?_) fun hb1 => ?_
  · have hlt : i < xs.length := by have := hb1; simp at this; omega
    obtain ⟨x, hxi⟩ := some_of_lt hlt
    have hg := mkL_get (f := mkFrame) (k := k) hxi
    rw [← hys] at hg
    have hge := kTo_ge (i := i) mkFrame_ok h0 h1
    rw [drop_wt hxi] at hge
    simp only [Frame.wt, Quest.wt, Exch.wt] at hge
    generalize hk0 : kTo mkFrame xs k i = k0 at hg hge ⊢
    obtain ⟨y, hy⟩ : ∃ y, y = (mkFrame x k0).1 := ⟨_, rfl⟩
    rw [← hy] at hg
    have hf0 : y.Ask.Name = mt k0 := by rw [hy]; rfl
    refine v_skip ?_
    refine v_seq ?_
    refine v_block ?_
    refine v_seq ?_
    refine v_seq ?_
    refine v_drw [⟨.t ⟨false, [.d (.sl 15 (ys.map Frame.cells))]⟩, [], [0], [], false⟩, ⟨.t ⟨false, [.d (dI (i : Int))]⟩, [], [5], [], false⟩, ⟨.t ⟨false, [.fe 15 (ys.map Frame.cells) i 0]⟩, [], [12, 13], [], false⟩, ⟨.t ⟨false, [.fe 15 (ys.map Frame.cells) i 0]⟩, [], [14], [], false⟩, ⟨.t ⟨false, [.fe 15 (ys.map Frame.cells) i 0]⟩, [], [15], [], false⟩, ⟨.t ⟨false, [.d (dS (y.Ask.Name))]⟩, [], [16], [], false⟩, ⟨.t ⟨false, [.d (dI (k0))]⟩, [], [1], [], false⟩, ⟨.t ⟨false, [.d (dS (mt k0))]⟩, [], [18], [], false⟩, ⟨.t ⟨false, [.d (dB (decide ((y.Ask.Name) ≠ (mt k0))))]⟩, [], [17, 19], [], false⟩] mixed rfl rfl rfl rfl ⟨gN rfl rfl (fun t h A => dy (zmv rfl (A.e rfl rfl rfl))), gN rfl rfl (fun t h A => dy (zmv rfl (A.e rfl rfl rfl))), gN rfl rfl (fun t h A => dy (zix tabOk rfl rfl rfl (A.e rfl rfl rfl) (A.e rfl rfl rfl) (ltm_of_some hg))), gN rfl rfl (fun t h A => dy (zfa tabOk rfl rfl rfl (A.e rfl rfl rfl) rfl rfl)), gN rfl rfl (fun t h A => dy (zfa tabOk rfl rfl rfl (A.e rfl rfl rfl) rfl rfl)), gN rfl rfl (fun t h A => dy (zle tabOk rfl (A.e rfl rfl rfl) (getm hg) rfl rfl)), gN rfl rfl (fun t h A => dy (zmv rfl (A.e rfl rfl rfl))), gN rfl rfl (fun t h A => zcallA 0 (sc (dS (mt k0))) [] rfl (tr_markText k0 (by omega)) (ar (A.e rfl rfl rfl) (.d .nil) .nil) rfl (free0 rfl) rfl rfl), gN rfl rfl (fun t h A => dy (y_bin rfl (A.e rfl rfl rfl) (A.e rfl rfl rfl) (fun _ => b_sneq) rfl)), trivial⟩ ?_
    refine s_end ?_
    refine v_cond (e rfl rfl) (fun hb2 => ?_) fun hb2 => ?_
    · exact absurd hb2 (by simp [hf0])
    refine v_skip ?_
    refine v_seq ?_
    refine v_reg ?_
    refine sy _ (zmv rfl (e rfl rfl)) rfl rfl ?_
    refine sy (.t ⟨false, [.d (dI (nx k0))]⟩) (y_bin rfl (e rfl rfl) (ec rfl) (fun _ => b_nx) rfl) rfl rfl ?_
    refine sy _ (zas rfl (e rfl rfl)) rfl rfl ?_
    have hg1 := nx_eq (k := k0) (by omega) (by omega)
    generalize hk1 : nx k0 = k1 at hg1 ⊢
    have hf1 : y.Ask.Typ = k1 := by rw [hy]; subst hk1; rfl
    refine s_end ?_
    refine v_seq ?_
    refine v_seq ?_
    refine v_reg ?_
    refine sy _ (zmv rfl (e rfl rfl)) rfl rfl ?_
    refine sy _ (zmv rfl (e rfl rfl)) rfl rfl ?_
    refine sy (.t ⟨false, [.fe 15 (ys.map Frame.cells) i 0]⟩) (zix tabOk rfl rfl rfl (e rfl rfl) (e rfl rfl) (ltm_of_some hg)) rfl rfl ?_
    refine sy (.t ⟨false, [.fe 15 (ys.map Frame.cells) i 0]⟩) (zfa tabOk rfl rfl rfl (e rfl rfl) rfl rfl) rfl rfl ?_
    refine sy (.t ⟨false, [.fe 15 (ys.map Frame.cells) i 1]⟩) (zfa tabOk rfl rfl rfl (e rfl rfl) rfl rfl) rfl rfl ?_
    refine sy (.t ⟨false, [.d (dI (y.Ask.Typ))]⟩) (zle tabOk rfl (e rfl rfl) (getm hg) rfl rfl) rfl rfl ?_
    refine sy _ (zmv rfl (e rfl rfl)) rfl rfl ?_
    refine sy (.t ⟨false, [.d (dB (decide ((y.Ask.Typ) ≠ (k1))))]⟩) (y_bin rfl (e rfl rfl) (e rfl rfl) (fun _ => b_neq) rfl) rfl rfl ?_
    refine s_end ?_
    refine v_cond (e rfl rfl) (fun hb3 => ?_) fun hb3 => ?_
    · exact absurd hb3 (by simp [hf1])
    refine v_skip ?_
    refine v_seq ?_
    refine v_reg ?_
    refine sy _ (zmv rfl (e rfl rfl)) rfl rfl ?_
    refine sy (.t ⟨false, [.d (dI (nx k1))]⟩) (y_bin rfl (e rfl rfl) (ec rfl) (fun _ => b_nx) rfl) rfl rfl ?_
    refine sy _ (zas rfl (e rfl rfl)) rfl rfl ?_
    have hg2 := nx_eq (k := k1) (by omega) (by omega)
    generalize hk2 : nx k1 = k2 at hg2 ⊢
    have hf2 : y.Q.Name = mt k2 := by rw [hy]; subst hk1 hk2; rfl
    refine s_end ?_
    refine v_seq ?_
    refine v_seq ?_
    refine v_drw [⟨.t ⟨false, [.d (.sl 15 (ys.map Frame.cells))]⟩, [], [0], [], false⟩, ⟨.t ⟨false, [.d (dI (i : Int))]⟩, [], [5], [], false⟩, ⟨.t ⟨false, [.fe 15 (ys.map Frame.cells) i 0]⟩, [], [33, 34], [], false⟩, ⟨.t ⟨false, [.fe 15 (ys.map Frame.cells) i 2]⟩, [], [35], [], false⟩, ⟨.t ⟨false, [.fe 15 (ys.map Frame.cells) i 2]⟩, [], [36], [], false⟩, ⟨.t ⟨false, [.d (dS (y.Q.Name))]⟩, [], [37], [], false⟩, ⟨.t ⟨false, [.d (dI (k2))]⟩, [], [1], [], false⟩, ⟨.t ⟨false, [.d (dS (mt k2))]⟩, [], [39], [], false⟩, ⟨.t ⟨false, [.d (dB (decide ((y.Q.Name) ≠ (mt k2))))]⟩, [], [38, 40], [], false⟩] mixed rfl rfl rfl rfl ⟨gN rfl rfl (fun t h A => dy (zmv rfl (A.e rfl rfl rfl))), gN rfl rfl (fun t h A => dy (zmv rfl (A.e rfl rfl rfl))), gN rfl rfl (fun t h A => dy (zix tabOk rfl rfl rfl (A.e rfl rfl rfl) (A.e rfl rfl rfl) (ltm_of_some hg))), gN rfl rfl (fun t h A => dy (zfa tabOk rfl rfl rfl (A.e rfl rfl rfl) rfl rfl)), gN rfl rfl (fun t h A => dy (zfa tabOk rfl rfl rfl (A.e rfl rfl rfl) rfl rfl)), gN rfl rfl (fun t h A => dy (zle tabOk rfl (A.e rfl rfl rfl) (getm hg) rfl rfl)), gN rfl rfl (fun t h A => dy (zmv rfl (A.e rfl rfl rfl))), gN rfl rfl (fun t h A => zcallA 0 (sc (dS (mt k2))) [] rfl (tr_markText k2 (by omega)) (ar (A.e rfl rfl rfl) (.d .nil) .nil) rfl (free0 rfl) rfl rfl), gN rfl rfl (fun t h A => dy (y_bin rfl (A.e rfl rfl rfl) (A.e rfl rfl rfl) (fun _ => b_sneq) rfl)), trivial⟩ ?_
    refine s_end ?_
    refine v_cond (e rfl rfl) (fun hb4 => ?_) fun hb4 => ?_
    · exact absurd hb4 (by simp [hf2])
    refine v_skip ?_
    refine v_seq ?_
    refine v_reg ?_
    refine sy _ (zmv rfl (e rfl rfl)) rfl rfl ?_
    refine sy (.t ⟨false, [.d (dI (nx k2))]⟩) (y_bin rfl (e rfl rfl) (ec rfl) (fun _ => b_nx) rfl) rfl rfl ?_
    refine sy _ (zas rfl (e rfl rfl)) rfl rfl ?_
    have hg3 := nx_eq (k := k2) (by omega) (by omega)
    generalize hk3 : nx k2 = k3 at hg3 ⊢
    have hf3 : y.Q.Typ = k3 := by rw [hy]; subst hk1 hk2 hk3; rfl
    refine s_end ?_
    refine v_seq ?_
    refine v_seq ?_
    refine v_reg ?_
    refine sy _ (zmv rfl (e rfl rfl)) rfl rfl ?_
    refine sy _ (zmv rfl (e rfl rfl)) rfl rfl ?_
    refine sy (.t ⟨false, [.fe 15 (ys.map Frame.cells) i 0]⟩) (zix tabOk rfl rfl rfl (e rfl rfl) (e rfl rfl) (ltm_of_some hg)) rfl rfl ?_
    refine sy (.t ⟨false, [.fe 15 (ys.map Frame.cells) i 2]⟩) (zfa tabOk rfl rfl rfl (e rfl rfl) rfl rfl) rfl rfl ?_
    refine sy (.t ⟨false, [.fe 15 (ys.map Frame.cells) i 3]⟩) (zfa tabOk rfl rfl rfl (e rfl rfl) rfl rfl) rfl rfl ?_
    refine sy (.t ⟨false, [.d (dI (y.Q.Typ))]⟩) (zle tabOk rfl (e rfl rfl) (getm hg) rfl rfl) rfl rfl ?_
    refine sy _ (zmv rfl (e rfl rfl)) rfl rfl ?_
    refine sy (.t ⟨false, [.d (dB (decide ((y.Q.Typ) ≠ (k3))))]⟩) (y_bin rfl (e rfl rfl) (e rfl rfl) (fun _ => b_neq) rfl) rfl rfl ?_
    refine s_end ?_
    refine v_cond (e rfl rfl) (fun hb5 => ?_) fun hb5 => ?_
    · exact absurd hb5 (by simp [hf3])
    refine v_skip ?_
    refine v_seq ?_
    refine v_reg ?_
    refine sy _ (zmv rfl (e rfl rfl)) rfl rfl ?_
    refine sy (.t ⟨false, [.d (dI (nx k3))]⟩) (y_bin rfl (e rfl rfl) (ec rfl) (fun _ => b_nx) rfl) rfl rfl ?_
    refine sy _ (zas rfl (e rfl rfl)) rfl rfl ?_
    have hg4 := nx_eq (k := k3) (by omega) (by omega)
    generalize hk4 : nx k3 = k4 at hg4 ⊢
    have hf4 : y.Links = (mkL mkRecord x.Links k4).1 := by rw [hy]; subst hk1 hk2 hk3 hk4; rfl
    refine s_end ?_
    refine v_seq ?_
    refine v_reg ?_
    refine sy _ (zmv rfl (e rfl rfl)) rfl rfl ?_
    refine sy _ (zmv rfl (e rfl rfl)) rfl rfl ?_
    refine sy (.t ⟨false, [.fe 15 (ys.map Frame.cells) i 0]⟩) (zix tabOk rfl rfl rfl (e rfl rfl) (e rfl rfl) (ltm_of_some hg)) rfl rfl ?_
    refine sy (.t ⟨false, [.fe 15 (ys.map Frame.cells) i 4]⟩) (zfa tabOk rfl rfl rfl (e rfl rfl) rfl rfl) rfl rfl ?_
    refine sy (.t ⟨false, [.d (.sl 6 (y.Links.map Record.cells))]⟩) (zle tabOk rfl (e rfl rfl) (getm hg) rfl rfl) rfl rfl ?_
    refine sy _ (zmv rfl (e rfl rfl)) rfl rfl ?_
    refine sd (.t ⟨false, [.d (dI ((mkL mkRecord x.Links k4).2))]⟩) (zcall 0 (sc (dI (mkL mkRecord x.Links k4).2)) [] rfl (tr_heldRecordS x.Links y.Links ((hx.2 _ (List.mem_of_getElem? hxi)).Links) k4 (by omega) (by omega) hf4) (ar (e rfl rfl) (.d .nil) (ar (e rfl rfl) (.d .nil) .nil)) rfl rfl rfl) rfl rfl rfl rfl ?_
    refine sy _ (zas rfl (e rfl rfl)) rfl rfl ?_
    have hg5 := mkL_ge mkRecord_ok (xs := x.Links) (k := k4) (by omega) (by omega)
    generalize hk5 : (mkL mkRecord x.Links k4).2 = k5 at hg5 ⊢
    have hf5 : y.Apex = mt k5 := by rw [hy]; subst hk1 hk2 hk3 hk4 hk5; rfl
    refine s_end ?_
    refine v_seq ?_
    refine v_seq ?_
    refine v_reg ?_
    refine sy _ (zmv rfl (e rfl rfl)) rfl rfl ?_
    refine sy (.t ⟨false, [.d (dB (decide ((k5) < (0))))]⟩) (y_bin rfl (e rfl rfl) (ec rfl) (fun _ => b_lss) rfl) rfl rfl ?_
    refine s_end ?_
    refine v_cond (e rfl rfl) (fun hb6 => ?_) fun hb6 => ?_
    · exact absurd hb6 (by simp; omega)
    refine v_skip ?_
    refine v_seq ?_
    refine v_seq ?_
    refine v_drw [⟨.t ⟨false, [.d (.sl 15 (ys.map Frame.cells))]⟩, [], [0], [], false⟩, ⟨.t ⟨false, [.d (dI (i : Int))]⟩, [], [5], [], false⟩, ⟨.t ⟨false, [.fe 15 (ys.map Frame.cells) i 0]⟩, [], [63, 64], [], false⟩, ⟨.t ⟨false, [.fe 15 (ys.map Frame.cells) i 5]⟩, [], [65], [], false⟩, ⟨.t ⟨false, [.d (dS (y.Apex))]⟩, [], [66], [], false⟩, ⟨.t ⟨false, [.d (dI (k5))]⟩, [], [1], [], false⟩, ⟨.t ⟨false, [.d (dS (mt k5))]⟩, [], [68], [], false⟩, ⟨.t ⟨false, [.d (dB (decide ((y.Apex) ≠ (mt k5))))]⟩, [], [67, 69], [], false⟩] mixed rfl rfl rfl rfl ⟨gN rfl rfl (fun t h A => dy (zmv rfl (A.e rfl rfl rfl))), gN rfl rfl (fun t h A => dy (zmv rfl (A.e rfl rfl rfl))), gN rfl rfl (fun t h A => dy (zix tabOk rfl rfl rfl (A.e rfl rfl rfl) (A.e rfl rfl rfl) (ltm_of_some hg))), gN rfl rfl (fun t h A => dy (zfa tabOk rfl rfl rfl (A.e rfl rfl rfl) rfl rfl)), gN rfl rfl (fun t h A => dy (zle tabOk rfl (A.e rfl rfl rfl) (getm hg) rfl rfl)), gN rfl rfl (fun t h A => dy (zmv rfl (A.e rfl rfl rfl))), gN rfl rfl (fun t h A => zcallA 0 (sc (dS (mt k5))) [] rfl (tr_markText k5 (by omega)) (ar (A.e rfl rfl rfl) (.d .nil) .nil) rfl (free0 rfl) rfl rfl), gN rfl rfl (fun t h A => dy (y_bin rfl (A.e rfl rfl rfl) (A.e rfl rfl rfl) (fun _ => b_sneq) rfl)), trivial⟩ ?_
    refine s_end ?_
    refine v_cond (e rfl rfl) (fun hb7 => ?_) fun hb7 => ?_
    · exact absurd hb7 (by simp [hf5])
    refine v_skip ?_
    refine v_seq ?_
    refine v_reg ?_
    refine sy _ (zmv rfl (e rfl rfl)) rfl rfl ?_
    refine sy (.t ⟨false, [.d (dI (nx k5))]⟩) (y_bin rfl (e rfl rfl) (ec rfl) (fun _ => b_nx) rfl) rfl rfl ?_
    refine sy _ (zas rfl (e rfl rfl)) rfl rfl ?_
    have hg6 := nx_eq (k := k5) (by omega) (by omega)
    generalize hk6 : nx k5 = k6 at hg6 ⊢
    have hf6 : y.Servers = (mkL mkI x.Servers k6).1 := by rw [hy]; subst hk1 hk2 hk3 hk4 hk5 hk6; rfl
    refine s_end ?_
    refine v_seq ?_
    refine v_reg ?_
    refine sy _ (zmv rfl (e rfl rfl)) rfl rfl ?_
    refine sy _ (zmv rfl (e rfl rfl)) rfl rfl ?_
    refine sy (.t ⟨false, [.fe 15 (ys.map Frame.cells) i 0]⟩) (zix tabOk rfl rfl rfl (e rfl rfl) (e rfl rfl) (ltm_of_some hg)) rfl rfl ?_
    refine sy (.t ⟨false, [.fe 15 (ys.map Frame.cells) i 6]⟩) (zfa tabOk rfl rfl rfl (e rfl rfl) rfl rfl) rfl rfl ?_
    refine sy (.t ⟨false, [.d (.sl 1 (y.Servers.map encI))]⟩) (zle tabOk rfl (e rfl rfl) (getm hg) rfl rfl) rfl rfl ?_
    refine sy _ (zmv rfl (e rfl rfl)) rfl rfl ?_
    refine sd (.t ⟨false, [.d (dI ((mkL mkI x.Servers k6).2))]⟩) (zcall 0 (sc (dI (mkL mkI x.Servers k6).2)) [] rfl (tr_heldIntS x.Servers y.Servers ((hx.2 _ (List.mem_of_getElem? hxi)).Servers) k6 (by omega) (by omega) hf6) (ar (e rfl rfl) (.d .nil) (ar (e rfl rfl) (.d .nil) .nil)) rfl rfl rfl) rfl rfl rfl rfl ?_
    refine sy _ (zas rfl (e rfl rfl)) rfl rfl ?_
    have hg7 := mkL_ge mkI_ok (xs := x.Servers) (k := k6) (by omega) (by omega)
    generalize hk7 : (mkL mkI x.Servers k6).2 = k7 at hg7 ⊢
    have hf7 : y.Need = (mkL mkS x.Need k7).1 := by rw [hy]; subst hk1 hk2 hk3 hk4 hk5 hk6 hk7; rfl
    refine s_end ?_
    refine v_seq ?_
    refine v_seq ?_
    refine v_reg ?_
    refine sy _ (zmv rfl (e rfl rfl)) rfl rfl ?_
    refine sy (.t ⟨false, [.d (dB (decide ((k7) < (0))))]⟩) (y_bin rfl (e rfl rfl) (ec rfl) (fun _ => b_lss) rfl) rfl rfl ?_
    refine s_end ?_
    refine v_cond (e rfl rfl) (fun hb8 => ?_) fun hb8 => ?_
    · exact absurd hb8 (by simp; omega)
    refine v_skip ?_
    refine v_seq ?_
    refine v_reg ?_
    refine sy _ (zmv rfl (e rfl rfl)) rfl rfl ?_
    refine sy _ (zmv rfl (e rfl rfl)) rfl rfl ?_
    refine sy (.t ⟨false, [.fe 15 (ys.map Frame.cells) i 0]⟩) (zix tabOk rfl rfl rfl (e rfl rfl) (e rfl rfl) (ltm_of_some hg)) rfl rfl ?_
    refine sy (.t ⟨false, [.fe 15 (ys.map Frame.cells) i 7]⟩) (zfa tabOk rfl rfl rfl (e rfl rfl) rfl rfl) rfl rfl ?_
    refine sy (.t ⟨false, [.d (.sl 1 (y.Need.map encS))]⟩) (zle tabOk rfl (e rfl rfl) (getm hg) rfl rfl) rfl rfl ?_
    refine sy _ (zmv rfl (e rfl rfl)) rfl rfl ?_
    refine sd (.t ⟨false, [.d (dI ((mkL mkS x.Need k7).2))]⟩) (zcall 0 (sc (dI (mkL mkS x.Need k7).2)) [] rfl (tr_heldStringS x.Need y.Need ((hx.2 _ (List.mem_of_getElem? hxi)).Need) k7 (by omega) (by omega) hf7) (ar (e rfl rfl) (.d .nil) (ar (e rfl rfl) (.d .nil) .nil)) rfl rfl rfl) rfl rfl rfl rfl ?_
    refine sy _ (zas rfl (e rfl rfl)) rfl rfl ?_
    have hg8 := mkL_ge mkS_ok (xs := x.Need) (k := k7) (by omega) (by omega)
    generalize hk8 : (mkL mkS x.Need k7).2 = k8 at hg8 ⊢
    have hf8 : y.Down = k8 := by rw [hy]; subst hk1 hk2 hk3 hk4 hk5 hk6 hk7 hk8; rfl
    refine s_end ?_
    refine v_seq ?_
    refine v_seq ?_
    refine v_reg ?_
    refine sy _ (zmv rfl (e rfl rfl)) rfl rfl ?_
    refine sy (.t ⟨false, [.d (dB (decide ((k8) < (0))))]⟩) (y_bin rfl (e rfl rfl) (ec rfl) (fun _ => b_lss) rfl) rfl rfl ?_
    refine s_end ?_
    refine v_cond (e rfl rfl) (fun hb9 => ?_) fun hb9 => ?_
    · exact absurd hb9 (by simp; omega)
    refine v_skip ?_
    refine v_seq ?_
    refine v_seq ?_
    refine v_reg ?_
    refine sy _ (zmv rfl (e rfl rfl)) rfl rfl ?_
    refine sy _ (zmv rfl (e rfl rfl)) rfl rfl ?_
    refine sy (.t ⟨false, [.fe 15 (ys.map Frame.cells) i 0]⟩) (zix tabOk rfl rfl rfl (e rfl rfl) (e rfl rfl) (ltm_of_some hg)) rfl rfl ?_
    refine sy (.t ⟨false, [.fe 15 (ys.map Frame.cells) i 8]⟩) (zfa tabOk rfl rfl rfl (e rfl rfl) rfl rfl) rfl rfl ?_
    refine sy (.t ⟨false, [.d (dI (y.Down))]⟩) (zle tabOk rfl (e rfl rfl) (getm hg) rfl rfl) rfl rfl ?_
    refine sy _ (zmv rfl (e rfl rfl)) rfl rfl ?_
    refine sy (.t ⟨false, [.d (dB (decide ((y.Down) ≠ (k8))))]⟩) (y_bin rfl (e rfl rfl) (e rfl rfl) (fun _ => b_neq) rfl) rfl rfl ?_
    refine s_end ?_
    refine v_cond (e rfl rfl) (fun hb10 => ?_) fun hb10 => ?_
    · exact absurd hb10 (by simp [hf8])
    refine v_skip ?_
    refine v_seq ?_
    refine v_reg ?_
    refine sy _ (zmv rfl (e rfl rfl)) rfl rfl ?_
    refine sy (.t ⟨false, [.d (dI (nx k8))]⟩) (y_bin rfl (e rfl rfl) (ec rfl) (fun _ => b_nx) rfl) rfl rfl ?_
    refine sy _ (zas rfl (e rfl rfl)) rfl rfl ?_
    have hg9 := nx_eq (k := k8) (by omega) (by omega)
    generalize hk9 : nx k8 = k9 at hg9 ⊢
    have hf9 : y.Left = k9 := by rw [hy]; subst hk1 hk2 hk3 hk4 hk5 hk6 hk7 hk8 hk9; rfl
    refine s_end ?_
    refine v_seq ?_
    refine v_seq ?_
    refine v_reg ?_
    refine sy _ (zmv rfl (e rfl rfl)) rfl rfl ?_
    refine sy _ (zmv rfl (e rfl rfl)) rfl rfl ?_
    refine sy (.t ⟨false, [.fe 15 (ys.map Frame.cells) i 0]⟩) (zix tabOk rfl rfl rfl (e rfl rfl) (e rfl rfl) (ltm_of_some hg)) rfl rfl ?_
    refine sy (.t ⟨false, [.fe 15 (ys.map Frame.cells) i 9]⟩) (zfa tabOk rfl rfl rfl (e rfl rfl) rfl rfl) rfl rfl ?_
    refine sy (.t ⟨false, [.d (dI (y.Left))]⟩) (zle tabOk rfl (e rfl rfl) (getm hg) rfl rfl) rfl rfl ?_
    refine sy _ (zmv rfl (e rfl rfl)) rfl rfl ?_
    refine sy (.t ⟨false, [.d (dB (decide ((y.Left) ≠ (k9))))]⟩) (y_bin rfl (e rfl rfl) (e rfl rfl) (fun _ => b_neq) rfl) rfl rfl ?_
    refine s_end ?_
    refine v_cond (e rfl rfl) (fun hb11 => ?_) fun hb11 => ?_
    · exact absurd hb11 (by simp [hf9])
    refine v_skip ?_
    refine v_seq ?_
    refine v_reg ?_
    refine sy _ (zmv rfl (e rfl rfl)) rfl rfl ?_
    refine sy (.t ⟨false, [.d (dI (nx k9))]⟩) (y_bin rfl (e rfl rfl) (ec rfl) (fun _ => b_nx) rfl) rfl rfl ?_
    refine sy _ (zas rfl (e rfl rfl)) rfl rfl ?_
    have hg10 := nx_eq (k := k9) (by omega) (by omega)
    generalize hk10 : nx k9 = k10 at hg10 ⊢
    have hf10 : y.Pc = k10 := by rw [hy]; subst hk1 hk2 hk3 hk4 hk5 hk6 hk7 hk8 hk9 hk10; rfl
    refine s_end ?_
    refine v_seq ?_
    refine v_seq ?_
    refine v_reg ?_
    refine sy _ (zmv rfl (e rfl rfl)) rfl rfl ?_
    refine sy _ (zmv rfl (e rfl rfl)) rfl rfl ?_
    refine sy (.t ⟨false, [.fe 15 (ys.map Frame.cells) i 0]⟩) (zix tabOk rfl rfl rfl (e rfl rfl) (e rfl rfl) (ltm_of_some hg)) rfl rfl ?_
    refine sy (.t ⟨false, [.fe 15 (ys.map Frame.cells) i 10]⟩) (zfa tabOk rfl rfl rfl (e rfl rfl) rfl rfl) rfl rfl ?_
    refine sy (.t ⟨false, [.d (dI (y.Pc))]⟩) (zle tabOk rfl (e rfl rfl) (getm hg) rfl rfl) rfl rfl ?_
    refine sy _ (zmv rfl (e rfl rfl)) rfl rfl ?_
    refine sy (.t ⟨false, [.d (dB (decide ((y.Pc) ≠ (k10))))]⟩) (y_bin rfl (e rfl rfl) (e rfl rfl) (fun _ => b_neq) rfl) rfl rfl ?_
    refine s_end ?_
    refine v_cond (e rfl rfl) (fun hb12 => ?_) fun hb12 => ?_
    · exact absurd hb12 (by simp [hf10])
    refine v_skip ?_
    refine v_seq ?_
    refine v_reg ?_
    refine sy _ (zmv rfl (e rfl rfl)) rfl rfl ?_
    refine sy (.t ⟨false, [.d (dI (nx k10))]⟩) (y_bin rfl (e rfl rfl) (ec rfl) (fun _ => b_nx) rfl) rfl rfl ?_
    refine sy _ (zas rfl (e rfl rfl)) rfl rfl ?_
    have hg11 := nx_eq (k := k10) (by omega) (by omega)
    generalize hk11 : nx k10 = k11 at hg11 ⊢
    have hf11 : y.X.Id = k11 := by rw [hy]; subst hk1 hk2 hk3 hk4 hk5 hk6 hk7 hk8 hk9 hk10 hk11; rfl
    refine s_end ?_
    refine v_seq ?_
    refine v_seq ?_
    refine v_reg ?_
    refine sy _ (zmv rfl (e rfl rfl)) rfl rfl ?_
    refine sy _ (zmv rfl (e rfl rfl)) rfl rfl ?_
    refine sy (.t ⟨false, [.fe 15 (ys.map Frame.cells) i 0]⟩) (zix tabOk rfl rfl rfl (e rfl rfl) (e rfl rfl) (ltm_of_some hg)) rfl rfl ?_
    refine sy (.t ⟨false, [.fe 15 (ys.map Frame.cells) i 11]⟩) (zfa tabOk rfl rfl rfl (e rfl rfl) rfl rfl) rfl rfl ?_
    refine sy (.t ⟨false, [.fe 15 (ys.map Frame.cells) i 11]⟩) (zfa tabOk rfl rfl rfl (e rfl rfl) rfl rfl) rfl rfl ?_
    refine sy (.t ⟨false, [.d (dI (y.X.Id))]⟩) (zle tabOk rfl (e rfl rfl) (getm hg) rfl rfl) rfl rfl ?_
    refine sy _ (zmv rfl (e rfl rfl)) rfl rfl ?_
    refine sy (.t ⟨false, [.d (dB (decide ((y.X.Id) ≠ (k11))))]⟩) (y_bin rfl (e rfl rfl) (e rfl rfl) (fun _ => b_neq) rfl) rfl rfl ?_
    refine s_end ?_
    refine v_cond (e rfl rfl) (fun hb13 => ?_) fun hb13 => ?_
    · exact absurd hb13 (by simp [hf11])
    refine v_skip ?_
    refine v_seq ?_
    refine v_reg ?_
    refine sy _ (zmv rfl (e rfl rfl)) rfl rfl ?_
    refine sy (.t ⟨false, [.d (dI (nx k11))]⟩) (y_bin rfl (e rfl rfl) (ec rfl) (fun _ => b_nx) rfl) rfl rfl ?_
    refine sy _ (zas rfl (e rfl rfl)) rfl rfl ?_
    have hg12 := nx_eq (k := k11) (by omega) (by omega)
    generalize hk12 : nx k11 = k12 at hg12 ⊢
    have hf12 : y.X.Addr = k12 := by rw [hy]; subst hk1 hk2 hk3 hk4 hk5 hk6 hk7 hk8 hk9 hk10 hk11 hk12; rfl
    refine s_end ?_
    refine v_seq ?_
    refine v_seq ?_
    refine v_reg ?_
    refine sy _ (zmv rfl (e rfl rfl)) rfl rfl ?_
    refine sy _ (zmv rfl (e rfl rfl)) rfl rfl ?_
    refine sy (.t ⟨false, [.fe 15 (ys.map Frame.cells) i 0]⟩) (zix tabOk rfl rfl rfl (e rfl rfl) (e rfl rfl) (ltm_of_some hg)) rfl rfl ?_
    refine sy (.t ⟨false, [.fe 15 (ys.map Frame.cells) i 11]⟩) (zfa tabOk rfl rfl rfl (e rfl rfl) rfl rfl) rfl rfl ?_
    refine sy (.t ⟨false, [.fe 15 (ys.map Frame.cells) i 12]⟩) (zfa tabOk rfl rfl rfl (e rfl rfl) rfl rfl) rfl rfl ?_
    refine sy (.t ⟨false, [.d (dI (y.X.Addr))]⟩) (zle tabOk rfl (e rfl rfl) (getm hg) rfl rfl) rfl rfl ?_
    refine sy _ (zmv rfl (e rfl rfl)) rfl rfl ?_
    refine sy (.t ⟨false, [.d (dB (decide ((y.X.Addr) ≠ (k12))))]⟩) (y_bin rfl (e rfl rfl) (e rfl rfl) (fun _ => b_neq) rfl) rfl rfl ?_
    refine s_end ?_
    refine v_cond (e rfl rfl) (fun hb14 => ?_) fun hb14 => ?_
    · exact absurd hb14 (by simp [hf12])
    refine v_skip ?_
    refine v_seq ?_
    refine v_reg ?_
    refine sy _ (zmv rfl (e rfl rfl)) rfl rfl ?_
    refine sy (.t ⟨false, [.d (dI (nx k12))]⟩) (y_bin rfl (e rfl rfl) (ec rfl) (fun _ => b_nx) rfl) rfl rfl ?_
    refine sy _ (zas rfl (e rfl rfl)) rfl rfl ?_
    have hg13 := nx_eq (k := k12) (by omega) (by omega)
    generalize hk13 : nx k12 = k13 at hg13 ⊢
    have hf13 : y.X.Try = k13 := by rw [hy]; subst hk1 hk2 hk3 hk4 hk5 hk6 hk7 hk8 hk9 hk10 hk11 hk12 hk13; rfl
    refine s_end ?_
    refine v_seq ?_
    refine v_seq ?_
    refine v_reg ?_
    refine sy _ (zmv rfl (e rfl rfl)) rfl rfl ?_
    refine sy _ (zmv rfl (e rfl rfl)) rfl rfl ?_
    refine sy (.t ⟨false, [.fe 15 (ys.map Frame.cells) i 0]⟩) (zix tabOk rfl rfl rfl (e rfl rfl) (e rfl rfl) (ltm_of_some hg)) rfl rfl ?_
    refine sy (.t ⟨false, [.fe 15 (ys.map Frame.cells) i 11]⟩) (zfa tabOk rfl rfl rfl (e rfl rfl) rfl rfl) rfl rfl ?_
    refine sy (.t ⟨false, [.fe 15 (ys.map Frame.cells) i 13]⟩) (zfa tabOk rfl rfl rfl (e rfl rfl) rfl rfl) rfl rfl ?_
    refine sy (.t ⟨false, [.d (dI (y.X.Try))]⟩) (zle tabOk rfl (e rfl rfl) (getm hg) rfl rfl) rfl rfl ?_
    refine sy _ (zmv rfl (e rfl rfl)) rfl rfl ?_
    refine sy (.t ⟨false, [.d (dB (decide ((y.X.Try) ≠ (k13))))]⟩) (y_bin rfl (e rfl rfl) (e rfl rfl) (fun _ => b_neq) rfl) rfl rfl ?_
    refine s_end ?_
    refine v_cond (e rfl rfl) (fun hb15 => ?_) fun hb15 => ?_
    · exact absurd hb15 (by simp [hf13])
    refine v_skip ?_
    refine v_seq ?_
    refine v_reg ?_
    refine sy _ (zmv rfl (e rfl rfl)) rfl rfl ?_
    refine sy (.t ⟨false, [.d (dI (nx k13))]⟩) (y_bin rfl (e rfl rfl) (ec rfl) (fun _ => b_nx) rfl) rfl rfl ?_
    refine sy _ (zas rfl (e rfl rfl)) rfl rfl ?_
    have hg14 := nx_eq (k := k13) (by omega) (by omega)
    generalize hk14 : nx k13 = k14 at hg14 ⊢
    have hf14 : y.X.Due = k14 := by rw [hy]; subst hk1 hk2 hk3 hk4 hk5 hk6 hk7 hk8 hk9 hk10 hk11 hk12 hk13 hk14; rfl
    refine s_end ?_
    refine v_seq ?_
    refine v_seq ?_
    refine v_reg ?_
    refine sy _ (zmv rfl (e rfl rfl)) rfl rfl ?_
    refine sy _ (zmv rfl (e rfl rfl)) rfl rfl ?_
    refine sy (.t ⟨false, [.fe 15 (ys.map Frame.cells) i 0]⟩) (zix tabOk rfl rfl rfl (e rfl rfl) (e rfl rfl) (ltm_of_some hg)) rfl rfl ?_
    refine sy (.t ⟨false, [.fe 15 (ys.map Frame.cells) i 11]⟩) (zfa tabOk rfl rfl rfl (e rfl rfl) rfl rfl) rfl rfl ?_
    refine sy (.t ⟨false, [.fe 15 (ys.map Frame.cells) i 14]⟩) (zfa tabOk rfl rfl rfl (e rfl rfl) rfl rfl) rfl rfl ?_
    refine sy (.t ⟨false, [.d (dI (y.X.Due))]⟩) (zle tabOk rfl (e rfl rfl) (getm hg) rfl rfl) rfl rfl ?_
    refine sy _ (zmv rfl (e rfl rfl)) rfl rfl ?_
    refine sy (.t ⟨false, [.d (dB (decide ((y.X.Due) ≠ (k14))))]⟩) (y_bin rfl (e rfl rfl) (e rfl rfl) (fun _ => b_neq) rfl) rfl rfl ?_
    refine s_end ?_
    refine v_cond (e rfl rfl) (fun hb16 => ?_) fun hb16 => ?_
    · exact absurd hb16 (by simp [hf14])
    refine v_skip ?_
    refine v_reg ?_
    refine sy _ (zmv rfl (e rfl rfl)) rfl rfl ?_
    refine sy (.t ⟨false, [.d (dI (nx k14))]⟩) (y_bin rfl (e rfl rfl) (ec rfl) (fun _ => b_nx) rfl) rfl rfl ?_
    refine sy _ (zas rfl (e rfl rfl)) rfl rfl ?_
    have hg15 := nx_eq (k := k14) (by omega) (by omega)
    generalize hk15 : nx k14 = k15 at hg15 ⊢
    refine s_end ?_
    refine blk_norm ?_
    refine v_reg ?_
    refine sy _ (zmv rfl (e rfl rfl)) rfl rfl ?_
    refine sy (.t ⟨false, [.d (dI ((i : Int) + 1))]⟩) (y_bin rfl (e rfl rfl) (ec rfl) (fun _ => b_addn (by omega) (by omega)) rfl) rfl rfl ?_
    refine sy _ (zas rfl (e rfl rfl)) rfl rfl ?_
    refine s_end ?_
    subst hk1 hk2 hk3 hk4 hk5 hk6 hk7 hk8 hk9 hk10 hk11 hk12 hk13 hk14 hk15
    subst hk0
    exact lp_next (i + 1) hlt (by omega) ⟨rfl, congrArg (fun v => sc (dI v)) (kTo_succ (f := mkFrame) hxi).symm, rfl, trivial⟩ trivial rfl
  have hend : i = xs.length := by have := hb1; simp at this; omega
  refine v_exit ?_
  refine then_exit ?_
  refine loop_exit ?_
  refine blk_hit ?_
  refine v_seq ?_
  refine v_reg ?_
  refine sy _ (zmv rfl (e rfl rfl)) rfl rfl ?_
  refine sy _ (zas rfl (e rfl rfl)) rfl rfl ?_
  refine s_end ?_
  refine v_ret ?_
  have e1 : kTo mkFrame xs k i = (mkL mkFrame xs k).2 := kTo_end hend
  rw [← e1]
  exact post_ret (rv (.tmp (eg rfl rfl)) rfl (.lf .nil) rfl .nil) (.ro (.ro .nil)) rfl
end Go.Proofs.Ytglilpigoocgeaa.V
