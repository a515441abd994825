/-
  The families of laws of RecordS.
-/
import Derived.Test.YtglilpigoocgeaaGreatDoorTRecord
import Derived.Test.YtglilpigoocgeaaGreatDoorN
import Derived.Test.YtglilpigoocgeaaGreatDoorC
import Derived.Test.YtglilpigoocgeaaGreatDoorM
namespace Go.Proofs.YtglilpigoocgeaaGreatDoor.V
open Go
set_option linter.unusedVariables false
set_option linter.unusedSimpArgs false
set_option maxRecDepth 20000 in
theorem tr_szRecordS (xs : List Record) (hb : bndL Record.Bnd xs) (left : Int) (h0 : 0 ≤ left) (hl : left ≤ 1048576) : TrX Tryz.prog 54 [.ro ⟨false, [.sl 6 (xs.map Record.cells)]⟩, .ro (one (dI left))] (resI fun r => 0 ≤ r → r + (wtL Record.wt xs : Int) ≤ left ∧ fitL Record.Fit xs) := by
  have hB := hb.1
  have hlm : (xs.map Record.cells).length = xs.length := List.length_map _
  refine trX_go tabOk Tryz.func54 rfl rfl rfl rfl rfl (ov := [(0, .t ⟨false, [.d (.sl 6 (xs.map Record.cells))]⟩), (1, .t ⟨false, [.d (dI (left))]⟩)]) (hv := []) rfl rfl ?_
  refine v_seq ?_
  refine v_reg ?_
  refine sy _ (zas rfl (ec rfl)) rfl rfl ?_
  refine s_end ?_
  refine v_seq ?_
  refine v_reg ?_
  refine sy _ (zmv rfl (e rfl rfl)) rfl rfl ?_
  refine sy _ (zmv rfl (e rfl rfl)) rfl rfl ?_
  refine sy (.t ⟨false, [.d (dI ((xs.map Record.cells).length : Int))]⟩) (zln tabOk rfl rfl (e rfl rfl) .d) rfl rfl ?_
  refine sy (.t ⟨false, [.d (dI (left - ((xs.map Record.cells).length : Int)))]⟩) (y_bin rfl (e rfl rfl) (e rfl rfl) (fun _ => b_subn (by omega) (by omega)) rfl) rfl rfl ?_
  refine sy _ (zas rfl (e rfl rfl)) rfl rfl ?_
  refine s_end ?_
  refine v_seq ?_
  refine v_seq ?_
  refine v_reg ?_
  refine sy _ (zmv rfl (e rfl rfl)) rfl rfl ?_
  refine sy (.t ⟨false, [.d (dB (decide ((left - ((xs.map Record.cells).length : Int)) < (0))))]⟩) (y_bin rfl (e rfl rfl) (ec rfl) (fun _ => b_lss) rfl) rfl rfl ?_
  refine s_end ?_
  refine v_cond (e rfl rfl) (fun hb1 => ?_) fun hb1 => ?_
  · refine v_seq ?_
    refine v_reg ?_
    refine sy _ (zas rfl (ec rfl)) rfl rfl ?_
    refine s_end ?_
    refine v_ret ?_
    exact post_retX [one (dI (-1))] ⟨-1, fun h => by omega, rfl⟩ (rv (.tmp (eg rfl rfl)) rfl (.lf .nil) rfl .nil) (.ro (.ro .nil)) rfl
  have p2 : 0 ≤ left - ((xs.map Record.cells).length : Int) := by have := hb1; simp at this; omega
  refine v_skip ?_
  refine v_seq ?_
  refine v_seq ?_
  refine v_reg ?_
  refine sy _ (zas rfl (ec rfl)) rfl rfl ?_
  refine s_end ?_
  refine v_block ?_
  refine v_lp (fun (q : Nat × Int) => [(0, .t ⟨false, [.d (.sl 6 (xs.map Record.cells))]⟩), (1, .t ⟨false, [.d (dI (q.2))]⟩), (5, .t ⟨false, [.d (dI (q.1 : Int))]⟩)]) (fun _ => []) (fun q => q.1 ≤ xs.length ∧ 0 ≤ q.2 ∧ q.2 + (wtTo Record.wt xs q.1 : Int) + xs.length ≤ left ∧ allTo Record.Fit xs q.1) (fun q => xs.length - q.1) (0, left - ((xs.map Record.cells).length : Int)) ⟨Nat.zero_le _, by simp only; omega, by simp only [wtTo, List.take_zero, List.map_nil, List.sum_nil]; omega, allTo_zero⟩ ⟨rfl, rfl, rfl, trivial⟩ trivial rfl (fun q hi => ?_)
  obtain ⟨i, lf⟩ := q
  have hi0 := hi.1; have hi1 := hi.2.1; have hi2 := hi.2.2.1
  simp only at hi0 hi1 hi2
  refine v_seq ?_
  refine v_seq ?_
  refine v_reg ?_
  refine sy _ (zmv rfl (e rfl rfl)) rfl rfl ?_
  refine sy _ (zmv rfl (e rfl rfl)) rfl rfl ?_
  refine sy (.t ⟨false, [.d (dI ((xs.map Record.cells).length : Int))]⟩) (zln tabOk rfl rfl (e rfl rfl) .d) rfl rfl ?_
  refine sy (.t ⟨false, [.d (dB (decide (((i : Int)) < (((xs.map Record.cells).length : Int)))))]⟩) (y_bin rfl (e rfl rfl) (e rfl rfl) (fun _ => b_lss) rfl) rfl rfl ?_
  refine s_end ?_
  refine v_cond (e rfl rfl) (fun hb3 => ?_) fun hb3 => ?_
  · have hlt : i < xs.length := by have := hb3; simp at this; omega
    obtain ⟨x, hxi⟩ := some_of_lt hlt
    have hbx := hb.2 _ (List.mem_of_getElem? hxi)
    refine v_skip ?_
    refine v_seq ?_
    refine v_block ?_
    refine v_seq ?_
    refine v_reg ?_
    refine sy _ (zmv rfl (e rfl rfl)) rfl rfl ?_
    refine sy _ (zmv rfl (e rfl rfl)) rfl rfl ?_
    refine sy (.t ⟨false, [.fe 6 (xs.map Record.cells) i 0]⟩) (zix tabOk rfl rfl rfl (e rfl rfl) (e rfl rfl) (ltm_of_some hxi)) rfl rfl ?_
    refine sy (.t ⟨true, [.d (dS (x.Name)), .d (dI (x.Typ)), .d (dI (x.Ttl)), .d (dI (x.N)), .d (dS (x.Host)), .d (dS (x.Text))]⟩) (zle tabOk rfl (e rfl rfl) (getm hxi) rfl rfl) rfl rfl ?_
    refine sy _ (zmv rfl (e rfl rfl)) rfl rfl ?_
    refine sxI (zcallX rfl (tr_szRecord x hbx lf (by omega) (by omega)) (ar (e rfl rfl) (.d (.d (.d (.d (.d (.d .nil)))))) (ar (e rfl rfl) (.d .nil) .nil))) rfl rfl (fun r4 hr4 => ?_)
    refine sy _ (zas rfl (e rfl rfl)) rfl rfl ?_
    refine s_end ?_
    refine v_seq ?_
    refine v_reg ?_
    refine sy _ (zmv rfl (e rfl rfl)) rfl rfl ?_
    refine sy (.t ⟨false, [.d (dB (decide ((r4) < (0))))]⟩) (y_bin rfl (e rfl rfl) (ec rfl) (fun _ => b_lss) rfl) rfl rfl ?_
    refine s_end ?_
    refine v_cond (e rfl rfl) (fun hb5 => ?_) fun hb5 => ?_
    · refine v_seq ?_
      refine v_reg ?_
      refine sy _ (zas rfl (ec rfl)) rfl rfl ?_
      refine s_end ?_
      refine v_ret ?_
      exact post_retX [one (dI (-1))] ⟨-1, fun h => by omega, rfl⟩ (rv (.tmp (eg rfl rfl)) rfl (.lf .nil) rfl .nil) (.ro (.ro .nil)) rfl
    have p6 : 0 ≤ r4 := by have := hb5; simp at this; omega
    refine v_skip ?_
    refine blk_norm ?_
    refine v_reg ?_
    refine sy _ (zmv rfl (e rfl rfl)) rfl rfl ?_
    refine sy (.t ⟨false, [.d (dI ((i : Int) + 1))]⟩) (y_bin rfl (e rfl rfl) (ec rfl) (fun _ => b_addn (by omega) (by omega)) rfl) rfl rfl ?_
    refine sy _ (zas rfl (e rfl rfl)) rfl rfl ?_
    refine s_end ?_
    have e1 := wtTo_succ (f := Record.wt) hxi
    have e2 := hr4 p6
    have e3 := e2.1
    exact lp_next (i + 1, r4) ⟨hlt, by simp only; omega, by simp only; omega, allTo_succ hxi hi.2.2.2 e2.2⟩ (by simp only; omega) ⟨rfl, rfl, rfl, trivial⟩ trivial rfl
  have hend : i = xs.length := by have := hb3; simp at this; omega
  refine v_exit ?_
  refine then_exit ?_
  refine loop_exit ?_
  refine blk_hit ?_
  refine v_seq ?_
  refine v_reg ?_
  refine sy _ (zmv rfl (e rfl rfl)) rfl rfl ?_
  refine sy _ (zas rfl (e rfl rfl)) rfl rfl ?_
  refine s_end ?_
  refine v_ret ?_
  have e1 := wtTo_end (f := Record.wt) hend
  exact post_retX [one (dI (lf))] ⟨lf, fun h => ⟨by rw [e1]; omega, ⟨by omega, allTo_end hend hi.2.2.2⟩⟩, rfl⟩ (rv (.tmp (eg rfl rfl)) rfl (.lf .nil) rfl .nil) (.ro (.ro .nil)) rfl
set_option maxRecDepth 20000 in
theorem tr_toRecordS (xs : List Record) (hx : fitL Record.Fit xs) : Tr Tryz.prog 63 [.ro ⟨false, [.sl 6 (xs.map Record.cells)]⟩] [⟨false, [.sl 6 (xs.map Record.cells)]⟩] := by
  refine tr_go tabOk Tryz.func63 rfl rfl rfl rfl rfl (ov := [(0, .t ⟨false, [.d (.sl 6 (xs.map Record.cells))]⟩)]) (hv := []) rfl rfl ?_
  refine v_seq ?_
  refine v_reg ?_
  refine sy _ (zas rfl (en 6)) rfl rfl ?_
  refine s_end ?_
  refine v_seq ?_
  refine v_reg ?_
  refine sy _ (zmv rfl (e rfl rfl)) rfl rfl ?_
  refine sy (.t ⟨false, [.d (dI ((xs.map Record.cells).length : Int))]⟩) (zln tabOk rfl rfl (e rfl rfl) .d) rfl rfl ?_
  refine sr 0 (.t ⟨false, [.sr 0 1 0 ((xs.map Record.cells).length) ((xs.map Record.cells).length)]⟩) (.row 6 (List.replicate ((xs.map Record.cells).length) [dS (⟨#[]⟩), dI (0), dI (0), dI (0), dS (⟨#[]⟩), dS (⟨#[]⟩)]) true 1 0) (zmk tabOk rfl rfl rfl (e rfl rfl) (e rfl rfl) (Nat.le_refl _) (mkok hx.1 rfl) rfl rfl) rfl rfl ?_
  refine sy _ (zas rfl (e rfl rfl)) rfl rfl ?_
  refine s_end ?_
  refine v_seq ?_
  refine v_seq ?_
  refine v_reg ?_
  refine sy _ (zas rfl (ec rfl)) rfl rfl ?_
  refine s_end ?_
  refine v_block ?_
  have hB := hx.1
  refine v_lp (fun (i : Nat) => [(0, .t ⟨false, [.d (.sl 6 (xs.map Record.cells))]⟩), (3, .t ⟨false, [.sr 0 1 0 ((xs.map Record.cells).length) ((xs.map Record.cells).length)]⟩), (4, .t ⟨false, [.d (dI (i : Int))]⟩)]) (fun i => [(0, .row 6 (fill Record.cells xs [dS (⟨#[]⟩), dI (0), dI (0), dI (0), dS (⟨#[]⟩), dS (⟨#[]⟩)] i) true 1 i)]) (fun i => i ≤ xs.length) (fun i => xs.length - i) 0 (Nat.zero_le _) ⟨rfl, rfl, rfl, trivial⟩ ⟨congrArg (fun l => VO.row 6 l true 1 0) fill0, trivial⟩ rfl (fun i hi => ?_)
  refine v_seq ?_
  refine v_seq ?_
  refine v_reg ?_
  refine sy _ (zmv rfl (e rfl rfl)) rfl rfl ?_
  refine sy _ (zmv rfl (e rfl rfl)) rfl rfl ?_
  refine sy (.t ⟨false, [.d (dI ((xs.map Record.cells).length : Int))]⟩) (zln tabOk rfl rfl (e rfl rfl) .d) rfl rfl ?_
  refine sy (.t ⟨false, [.d (dB (decide (((i : Int)) < (((xs.map Record.cells).length : Int)))))]⟩) (y_bin rfl (e rfl rfl) (e rfl rfl) (fun _ => b_lss) rfl) rfl rfl ?_
  refine s_end ?_
  refine v_cond (e rfl rfl) (fun hb1 => ?_) fun hb1 => ?_
  · have hlt : i < xs.length := by have := hb1; simp at this; omega
    obtain ⟨x, hxi⟩ := some_of_lt hlt
    refine v_skip ?_
    refine v_seq ?_
    refine v_block ?_
    refine v_reg ?_
    refine sy _ (zmv rfl (e rfl rfl)) rfl rfl ?_
    refine sy _ (zmv rfl (e rfl rfl)) rfl rfl ?_
    refine sy _ (zmv rfl (e rfl rfl)) rfl rfl ?_
    refine sy _ (zmv rfl (e rfl rfl)) rfl rfl ?_
    refine sy (.t ⟨false, [.fe 6 (xs.map Record.cells) i 0]⟩) (zix tabOk rfl rfl rfl (e rfl rfl) (e rfl rfl) (ltm_of_some hxi)) rfl rfl ?_
    refine sy (.t ⟨true, [.d (dS (x.Name)), .d (dI (x.Typ)), .d (dI (x.Ttl)), .d (dI (x.N)), .d (dS (x.Host)), .d (dS (x.Text))]⟩) (zle tabOk rfl (e rfl rfl) (getm hxi) rfl rfl) rfl rfl ?_
    refine sd (.t ⟨true, [.d (dS (x.Name)), .d (dI (x.Typ)), .d (dI (x.Ttl)), .d (dI (x.N)), .d (dS (x.Host)), .d (dS (x.Text))]⟩) (zcall 1 (.t ⟨true, [.d (dS (x.Name)), .d (dI (x.Typ)), .d (dI (x.Ttl)), .d (dI (x.N)), .d (dS (x.Host)), .d (dS (x.Text))]⟩) [] rfl (tr_toRecord x ((hx.2 _ (List.mem_of_getElem? hxi)))) (ar (e rfl rfl) (.d (.d (.d (.d (.d (.d .nil)))))) .nil) rfl rfl rfl) rfl rfl rfl rfl ?_
    refine sy (.t ⟨false, [.ep 0 1 i 0]⟩) (zis tabOk rfl rfl rfl (e rfl rfl) rfl (e rfl rfl) (ltm_of_some hxi) (Nat.zero_add _)) rfl rfl ?_
    refine sw 0 (.row 6 (fill Record.cells xs [dS (⟨#[]⟩), dI (0), dI (0), dI (0), dS (⟨#[]⟩), dS (⟨#[]⟩)] (i + 1)) true 1 (i + 1)) (zsr tabOk rfl (e rfl rfl) rfl (fill_get hxi) (e rfl rfl) rfl (.lf (.lf (.lf (.lf (.lf (.lf .nil)))))) rfl (.inl Nat.one_pos) (fill_set (f := Record.cells) hxi)) rfl rfl ?_
    refine s_end ?_
    refine blk_norm ?_
    refine v_reg ?_
    refine sy _ (zmv rfl (e rfl rfl)) rfl rfl ?_
    refine sy (.t ⟨false, [.d (dI ((i : Int) + 1))]⟩) (y_bin rfl (e rfl rfl) (ec rfl) (fun _ => b_addn (by omega) (by omega)) rfl) rfl rfl ?_
    refine sy _ (zas rfl (e rfl rfl)) rfl rfl ?_
    refine s_end ?_
    exact lp_next (i + 1) hlt (by omega) ⟨rfl, rfl, rfl, trivial⟩ ⟨rfl, trivial⟩ rfl
  have hend : i = xs.length := by have := hb1; simp at this; omega
  refine v_exit ?_
  refine then_exit ?_
  refine loop_exit ?_
  refine blk_hit ?_
  refine v_seq ?_
  refine v_reg ?_
  refine sy _ (zmv rfl (e rfl rfl)) rfl rfl ?_
  refine sy _ (zas rfl (e rfl rfl)) rfl rfl ?_
  refine s_end ?_
  refine v_ret ?_
  exact post_ret (rv (.tmp (eg rfl rfl)) rfl (.sr rfl (fill_le hend) (fill_end hend) .nil) rfl .nil) (.ro .nil) rfl
set_option maxRecDepth 20000 in
theorem tr_eqRecordS (xs ys : List Record) (hx : fitL Record.Fit xs) (hy : fitL Record.Fit ys) : Tr Tryz.prog 73 [.ro ⟨false, [.sl 6 (xs.map Record.cells)]⟩, .ro ⟨false, [.sl 6 (ys.map Record.cells)]⟩] [one (dB (decide (xs = ys)))] := by
  refine tr_go tabOk Tryz.func73 rfl rfl rfl rfl rfl (ov := [(0, .t ⟨false, [.d (.sl 6 (xs.map Record.cells))]⟩), (1, .t ⟨false, [.d (.sl 6 (ys.map Record.cells))]⟩)]) (hv := []) rfl rfl ?_
  refine v_seq ?_
  refine v_reg ?_
  refine sy _ (zas rfl (ec rfl)) rfl rfl ?_
  refine s_end ?_
  refine v_seq ?_
  refine v_seq ?_
  refine v_reg ?_
  refine sy _ (zmv rfl (e rfl rfl)) rfl rfl ?_
  refine sy (.t ⟨false, [.d (dI ((xs.map Record.cells).length : Int))]⟩) (zln tabOk rfl rfl (e rfl rfl) .d) rfl rfl ?_
  refine sy _ (zmv rfl (e rfl rfl)) rfl rfl ?_
  refine sy (.t ⟨false, [.d (dI ((ys.map Record.cells).length : Int))]⟩) (zln tabOk rfl rfl (e rfl rfl) .d) rfl rfl ?_
  refine sy (.t ⟨false, [.d (dB (decide ((((xs.map Record.cells).length : Int)) ≠ (((ys.map Record.cells).length : Int)))))]⟩) (y_bin rfl (e rfl rfl) (e rfl rfl) (fun _ => b_neq) rfl) rfl rfl ?_
  refine s_end ?_
  refine v_cond (e rfl rfl) (fun hb1 => ?_) fun hb1 => ?_
  · refine v_seq ?_
    refine v_reg ?_
    refine sy _ (zas rfl (ec rfl)) rfl rfl ?_
    refine s_end ?_
    refine v_ret ?_
    have hr : decide (xs = ys) = false := by simp at hb1 ⊢; intro h; subst h; exact hb1 rfl
    rw [hr]
    exact post_ret (rv (.tmp (eg rfl rfl)) rfl (.lf .nil) rfl .nil) (.ro (.ro .nil)) rfl
  have hlen : xs.length = ys.length := by have := hb1; simp at this; omega
  refine v_skip ?_
  refine v_seq ?_
  refine v_seq ?_
  refine v_reg ?_
  refine sy _ (zas rfl (ec rfl)) rfl rfl ?_
  refine s_end ?_
  refine v_block ?_
  have hB := hx.1
  refine v_lp (fun (i : Nat) => [(0, .t ⟨false, [.d (.sl 6 (xs.map Record.cells))]⟩), (1, .t ⟨false, [.d (.sl 6 (ys.map Record.cells))]⟩), (5, .t ⟨false, [.d (dI (i : Int))]⟩)]) (fun _ => []) (fun i => i ≤ xs.length ∧ xs.take i = ys.take i) (fun i => xs.length - i) 0 ⟨Nat.zero_le _, rfl⟩ ⟨rfl, rfl, rfl, trivial⟩ trivial rfl (fun i hi => ?_)
  refine v_seq ?_
  refine v_seq ?_
  refine v_reg ?_
  refine sy _ (zmv rfl (e rfl rfl)) rfl rfl ?_
  refine sy _ (zmv rfl (e rfl rfl)) rfl rfl ?_
  refine sy (.t ⟨false, [.d (dI ((xs.map Record.cells).length : Int))]⟩) (zln tabOk rfl rfl (e rfl rfl) .d) rfl rfl ?_
  refine sy (.t ⟨false, [.d (dB (decide (((i : Int)) < (((xs.map Record.cells).length : Int)))))]⟩) (y_bin rfl (e rfl rfl) (e rfl rfl) (fun _ => b_lss) rfl) rfl rfl ?_
  refine s_end ?_
  refine v_cond (e rfl rfl) (fun hb2 => ?_) fun hb2 => ?_
  · have hlt : i < xs.length := by simpa using hb2
    obtain ⟨x, hxi⟩ := some_of_lt hlt
    obtain ⟨y, hyi⟩ := some_of_lt (l := ys) (i := i) (by omega)
    refine v_skip ?_
    refine v_seq ?_
    refine v_block ?_
    refine v_seq ?_
    refine v_drw [⟨.t ⟨false, [.d (.sl 6 (xs.map Record.cells))]⟩, [], [0], [], false⟩, ⟨.t ⟨false, [.d (dI (i : Int))]⟩, [], [5], [], false⟩, ⟨.t ⟨false, [.fe 6 (xs.map Record.cells) i 0]⟩, [], [17, 18], [], false⟩, ⟨.t ⟨true, [.d (dS (x.Name)), .d (dI (x.Typ)), .d (dI (x.Ttl)), .d (dI (x.N)), .d (dS (x.Host)), .d (dS (x.Text))]⟩, [], [19], [], false⟩, ⟨.t ⟨false, [.d (.sl 6 (ys.map Record.cells))]⟩, [], [1], [], false⟩, ⟨.t ⟨false, [.d (dI (i : Int))]⟩, [], [5], [], false⟩, ⟨.t ⟨false, [.fe 6 (ys.map Record.cells) i 0]⟩, [], [21, 22], [], false⟩, ⟨.t ⟨true, [.d (dS (y.Name)), .d (dI (y.Typ)), .d (dI (y.Ttl)), .d (dI (y.N)), .d (dS (y.Host)), .d (dS (y.Text))]⟩, [], [23], [], false⟩, ⟨.t ⟨false, [.d (dB (decide (x = y)))]⟩, [], [20, 24], [], false⟩, ⟨.t ⟨false, [.d (dB (!(decide (x = y))))]⟩, [], [25], [], false⟩] mixed rfl rfl rfl rfl ⟨gN rfl rfl (fun t h A => dy (zmv rfl (A.e rfl rfl rfl))), gN rfl rfl (fun t h A => dy (zmv rfl (A.e rfl rfl rfl))), gN rfl rfl (fun t h A => dy (zix tabOk rfl rfl rfl (A.e rfl rfl rfl) (A.e rfl rfl rfl) (ltm_of_some hxi))), gN rfl rfl (fun t h A => dy (zle tabOk rfl (A.e rfl rfl rfl) (getm hxi) rfl rfl)), gN rfl rfl (fun t h A => dy (zmv rfl (A.e rfl rfl rfl))), gN rfl rfl (fun t h A => dy (zmv rfl (A.e rfl rfl rfl))), gN rfl rfl (fun t h A => dy (zix tabOk rfl rfl rfl (A.e rfl rfl rfl) (A.e rfl rfl rfl) (ltm_of_some hyi))), gN rfl rfl (fun t h A => dy (zle tabOk rfl (A.e rfl rfl rfl) (getm hyi) rfl rfl)), gN rfl rfl (fun t h A => zcallA 0 (.t ⟨false, [.d (dB (decide (x = y)))]⟩) [] rfl (tr_eqRecord x y ((hx.2 _ (List.mem_of_getElem? hxi))) ((hy.2 _ (List.mem_of_getElem? hyi)))) (ar (A.e rfl rfl rfl) (.d (.d (.d (.d (.d (.d .nil)))))) (ar (A.e rfl rfl rfl) (.d (.d (.d (.d (.d (.d .nil)))))) .nil)) rfl (free0 rfl) rfl rfl), gN rfl rfl (fun t h A => dy (y_un rfl (A.e rfl rfl rfl) (fun _ => u_not) rfl)), trivial⟩ ?_
    refine s_end ?_
    refine v_cond (e rfl rfl) (fun hb3 => ?_) fun hb3 => ?_
    · refine v_seq ?_
      refine v_reg ?_
      refine sy _ (zas rfl (ec rfl)) rfl rfl ?_
      refine s_end ?_
      refine v_ret ?_
      have hr : decide (xs = ys) = false := by
        have hne : x ≠ y := by have := hb3; simpa using this
        simp only [decide_eq_false_iff_not]; intro h; subst h; rw [hxi] at hyi; injection hyi with hyi; exact hne hyi
      rw [hr]
      exact post_ret (rv (.tmp (eg rfl rfl)) rfl (.lf .nil) rfl .nil) (.ro (.ro .nil)) rfl
    refine v_skip ?_
    refine blk_norm ?_
    refine v_reg ?_
    refine sy _ (zmv rfl (e rfl rfl)) rfl rfl ?_
    refine sy (.t ⟨false, [.d (dI ((i : Int) + 1))]⟩) (y_bin rfl (e rfl rfl) (ec rfl) (fun _ => b_addn (by omega) (by omega)) rfl) rfl rfl ?_
    refine sy _ (zas rfl (e rfl rfl)) rfl rfl ?_
    refine s_end ?_
    have hxy : x = y := by have := hb3; simpa using this
    subst hxy
    exact lp_next (i + 1) ⟨hlt, by rw [List.take_add_one, List.take_add_one, hi.2, hxi, hyi]⟩ (by omega) ⟨rfl, rfl, rfl, trivial⟩ trivial rfl
  refine v_exit ?_
  refine then_exit ?_
  refine loop_exit ?_
  refine blk_hit ?_
  refine v_seq ?_
  refine v_reg ?_
  refine sy _ (zas rfl (ec rfl)) rfl rfl ?_
  refine s_end ?_
  refine v_ret ?_
  have hr : decide (xs = ys) = true := by
    have : i = xs.length := by have := hb2; simp at this; omega
    subst this
    have h5 := hi.2; rw [List.take_length, hlen, List.take_length] at h5; simpa using h5
  rw [hr]
  exact post_ret (rv (.tmp (eg rfl rfl)) rfl (.lf .nil) rfl .nil) (.ro (.ro .nil)) rfl
set_option maxRecDepth 20000 in
theorem tr_markRecordS (xs : List Record) (hx : fitL Record.Fit xs) (k : Int) (hk : k < 9223372036854775808) : Tr Tryz.prog 52 [.mu (one (.sl 6 (xs.map Record.cells))) (one (.sl 6 ((mkL mkRecord xs k).1.map Record.cells))), .ro (one (dI k))] [one (dI (mkL mkRecord xs k).2)] := by
  refine tr_go tabOk Tryz.func52 rfl rfl rfl rfl rfl (ov := [(0, .t ⟨false, [.sr 0 0 0 ((xs.map Record.cells).length) ((xs.map Record.cells).length)]⟩), (1, .t ⟨false, [.d (dI (k))]⟩)]) (hv := [(0, .row 6 (xs.map Record.cells) true 0 0)]) rfl rfl ?_
  refine v_seq ?_
  refine v_reg ?_
  refine sy _ (zas rfl (ec rfl)) rfl rfl ?_
  refine s_end ?_
  refine v_seq ?_
  refine v_seq ?_
  refine v_reg ?_
  refine sy _ (zas rfl (ec rfl)) rfl rfl ?_
  refine s_end ?_
  refine v_block ?_
  have hB := hx.1
  refine v_lp (fun (i : Nat) => [(0, .t ⟨false, [.sr 0 0 0 ((xs.map Record.cells).length) ((xs.map Record.cells).length)]⟩), (1, .t ⟨false, [.d (dI (kTo mkRecord xs k i))]⟩), (5, .t ⟨false, [.d (dI (i : Int))]⟩)]) (fun i => [(0, .row 6 ((mkTo mkRecord xs k i).map Record.cells) true 0 0)]) (fun i => i ≤ xs.length) (fun i => xs.length - i) 0 (Nat.zero_le _) ⟨rfl, congrArg (fun v => sc (dI v)) kTo_zero.symm, rfl, trivial⟩ ⟨congrArg (fun l => VO.row 6 (List.map Record.cells l) true 0 0) mkTo_zero.symm, trivial⟩ rfl (fun i hi => ?_)
  refine v_seq ?_
  refine v_seq ?_
  refine v_reg ?_
  refine sy _ (zmv rfl (e rfl rfl)) rfl rfl ?_
  refine sy _ (zmv rfl (e rfl rfl)) rfl rfl ?_
  refine sy (.t ⟨false, [.d (dI ((xs.map Record.cells).length : Int))]⟩) (zln tabOk rfl rfl (e rfl rfl) (.sr (dp := 0) rfl)) rfl rfl ?_
  refine sy (.t ⟨false, [.d (dB (decide (((i : Int)) < (((xs.map Record.cells).length : Int)))))]⟩) (y_bin rfl (e rfl rfl) (e rfl rfl) (fun _ => b_lss) rfl) rfl rfl ?_
  refine s_end ?_
  refine v_cond (e rfl rfl) (fun hb1 => ?_) fun hb1 => ?_
  · have hlt : i < xs.length := by have := hb1; simp at this; omega
    obtain ⟨x, hxi⟩ := some_of_lt hlt
    have hkl : kTo mkRecord xs k i < 9223372036854775808 := kTo_lt mkRecord_lt hk
    generalize hk0 : kTo mkRecord xs k i = k0
    rw [hk0] at hkl
    refine v_skip ?_
    refine v_seq ?_
    refine v_block ?_
    refine v_seq ?_
    refine v_reg ?_
    refine sy _ (zmv rfl (e rfl rfl)) rfl rfl ?_
    refine sy _ (zmv rfl (e rfl rfl)) rfl rfl ?_
    refine sy _ (zmv rfl (e rfl rfl)) rfl rfl ?_
    refine sd (.t ⟨false, [.d (dS (mt k0))]⟩) (zcall 1 (sc (dS (mt k0))) [] rfl (tr_markText k0 hkl) (ar (e rfl rfl) (.d .nil) .nil) rfl rfl rfl) rfl rfl rfl rfl ?_
    refine sy (.t ⟨false, [.ep 0 0 i 0]⟩) (zis tabOk rfl rfl rfl (e rfl rfl) rfl (e rfl rfl) (ltm_of_some hxi) (Nat.zero_add _)) rfl rfl ?_
    refine sy (.t ⟨false, [.ep 0 0 i 0]⟩) (zfa tabOk rfl rfl rfl (e rfl rfl) rfl rfl) rfl rfl ?_
    refine sw 0 (.row 6 (((mkTo mkRecord xs k i).map Record.cells).set i [dS (mt k0), dI (x.Typ), dI (x.Ttl), dI (x.N), dS (x.Host), dS (x.Text)]) true 0 0) (zsr0 tabOk rfl (e rfl rfl) rfl (mkTo_get hxi) (e rfl rfl) rfl (.lf .nil) rfl rfl rfl) rfl rfl ?_
    refine s_end ?_
    refine v_seq ?_
    refine v_reg ?_
    refine sy _ (zmv rfl (e rfl rfl)) rfl rfl ?_
    refine sy (.t ⟨false, [.d (dI (nx k0))]⟩) (y_bin rfl (e rfl rfl) (ec rfl) (fun _ => b_nx) rfl) rfl rfl ?_
    refine sy _ (zas rfl (e rfl rfl)) rfl rfl ?_
    have hl1 : nx k0 < 9223372036854775808 := nx_lt _
    generalize hk1 : nx k0 = k1 at hl1 ⊢
    refine s_end ?_
    refine v_seq ?_
    refine v_reg ?_
    refine sy _ (zmv rfl (e rfl rfl)) rfl rfl ?_
    refine sy _ (zmv rfl (e rfl rfl)) rfl rfl ?_
    refine sy _ (zmv rfl (e rfl rfl)) rfl rfl ?_
    refine sy (.t ⟨false, [.ep 0 0 i 0]⟩) (zis tabOk rfl rfl rfl (e rfl rfl) rfl (e rfl rfl) (ltm_of_some hxi) (Nat.zero_add _)) rfl rfl ?_
    refine sy (.t ⟨false, [.ep 0 0 i 1]⟩) (zfa tabOk rfl rfl rfl (e rfl rfl) rfl rfl) rfl rfl ?_
    refine sw 0 (.row 6 (((mkTo mkRecord xs k i).map Record.cells).set i [dS (mt k0), dI (k1), dI (x.Ttl), dI (x.N), dS (x.Host), dS (x.Text)]) true 0 0) (zsr0 tabOk rfl (e rfl rfl) rfl (set_get (mkTo_lt hxi)) (e rfl rfl) rfl (.lf .nil) rfl rfl (List.set_set _)) rfl rfl ?_
    refine s_end ?_
    refine v_seq ?_
    refine v_reg ?_
    refine sy _ (zmv rfl (e rfl rfl)) rfl rfl ?_
    refine sy (.t ⟨false, [.d (dI (nx k1))]⟩) (y_bin rfl (e rfl rfl) (ec rfl) (fun _ => b_nx) rfl) rfl rfl ?_
    refine sy _ (zas rfl (e rfl rfl)) rfl rfl ?_
    have hl2 : nx k1 < 9223372036854775808 := nx_lt _
    generalize hk2 : nx k1 = k2 at hl2 ⊢
    refine s_end ?_
    refine v_seq ?_
    refine v_reg ?_
    refine sy _ (zmv rfl (e rfl rfl)) rfl rfl ?_
    refine sy _ (zmv rfl (e rfl rfl)) rfl rfl ?_
    refine sy _ (zmv rfl (e rfl rfl)) rfl rfl ?_
    refine sy (.t ⟨false, [.ep 0 0 i 0]⟩) (zis tabOk rfl rfl rfl (e rfl rfl) rfl (e rfl rfl) (ltm_of_some hxi) (Nat.zero_add _)) rfl rfl ?_
    refine sy (.t ⟨false, [.ep 0 0 i 2]⟩) (zfa tabOk rfl rfl rfl (e rfl rfl) rfl rfl) rfl rfl ?_
    refine sw 0 (.row 6 (((mkTo mkRecord xs k i).map Record.cells).set i [dS (mt k0), dI (k1), dI (k2), dI (x.N), dS (x.Host), dS (x.Text)]) true 0 0) (zsr0 tabOk rfl (e rfl rfl) rfl (set_get (mkTo_lt hxi)) (e rfl rfl) rfl (.lf .nil) rfl rfl (List.set_set _)) rfl rfl ?_
    refine s_end ?_
    refine v_seq ?_
    refine v_reg ?_
    refine sy _ (zmv rfl (e rfl rfl)) rfl rfl ?_
    refine sy (.t ⟨false, [.d (dI (nx k2))]⟩) (y_bin rfl (e rfl rfl) (ec rfl) (fun _ => b_nx) rfl) rfl rfl ?_
    refine sy _ (zas rfl (e rfl rfl)) rfl rfl ?_
    have hl3 : nx k2 < 9223372036854775808 := nx_lt _
    generalize hk3 : nx k2 = k3 at hl3 ⊢
    refine s_end ?_
    refine v_seq ?_
    refine v_reg ?_
    refine sy _ (zmv rfl (e rfl rfl)) rfl rfl ?_
    refine sy _ (zmv rfl (e rfl rfl)) rfl rfl ?_
    refine sy _ (zmv rfl (e rfl rfl)) rfl rfl ?_
    refine sy (.t ⟨false, [.ep 0 0 i 0]⟩) (zis tabOk rfl rfl rfl (e rfl rfl) rfl (e rfl rfl) (ltm_of_some hxi) (Nat.zero_add _)) rfl rfl ?_
    refine sy (.t ⟨false, [.ep 0 0 i 3]⟩) (zfa tabOk rfl rfl rfl (e rfl rfl) rfl rfl) rfl rfl ?_
    refine sw 0 (.row 6 (((mkTo mkRecord xs k i).map Record.cells).set i [dS (mt k0), dI (k1), dI (k2), dI (k3), dS (x.Host), dS (x.Text)]) true 0 0) (zsr0 tabOk rfl (e rfl rfl) rfl (set_get (mkTo_lt hxi)) (e rfl rfl) rfl (.lf .nil) rfl rfl (List.set_set _)) rfl rfl ?_
    refine s_end ?_
    refine v_seq ?_
    refine v_reg ?_
    refine sy _ (zmv rfl (e rfl rfl)) rfl rfl ?_
    refine sy (.t ⟨false, [.d (dI (nx k3))]⟩) (y_bin rfl (e rfl rfl) (ec rfl) (fun _ => b_nx) rfl) rfl rfl ?_
    refine sy _ (zas rfl (e rfl rfl)) rfl rfl ?_
    have hl4 : nx k3 < 9223372036854775808 := nx_lt _
    generalize hk4 : nx k3 = k4 at hl4 ⊢
    refine s_end ?_
    refine v_seq ?_
    refine v_reg ?_
    refine sy _ (zmv rfl (e rfl rfl)) rfl rfl ?_
    refine sy _ (zmv rfl (e rfl rfl)) rfl rfl ?_
    refine sy _ (zmv rfl (e rfl rfl)) rfl rfl ?_
    refine sd (.t ⟨false, [.d (dS (mt k4))]⟩) (zcall 1 (sc (dS (mt k4))) [] rfl (tr_markText k4 hl4) (ar (e rfl rfl) (.d .nil) .nil) rfl rfl rfl) rfl rfl rfl rfl ?_
    refine sy (.t ⟨false, [.ep 0 0 i 0]⟩) (zis tabOk rfl rfl rfl (e rfl rfl) rfl (e rfl rfl) (ltm_of_some hxi) (Nat.zero_add _)) rfl rfl ?_
    refine sy (.t ⟨false, [.ep 0 0 i 4]⟩) (zfa tabOk rfl rfl rfl (e rfl rfl) rfl rfl) rfl rfl ?_
    refine sw 0 (.row 6 (((mkTo mkRecord xs k i).map Record.cells).set i [dS (mt k0), dI (k1), dI (k2), dI (k3), dS (mt k4), dS (x.Text)]) true 0 0) (zsr0 tabOk rfl (e rfl rfl) rfl (set_get (mkTo_lt hxi)) (e rfl rfl) rfl (.lf .nil) rfl rfl (List.set_set _)) rfl rfl ?_
    refine s_end ?_
    refine v_seq ?_
    refine v_reg ?_
    refine sy _ (zmv rfl (e rfl rfl)) rfl rfl ?_
    refine sy (.t ⟨false, [.d (dI (nx k4))]⟩) (y_bin rfl (e rfl rfl) (ec rfl) (fun _ => b_nx) rfl) rfl rfl ?_
    refine sy _ (zas rfl (e rfl rfl)) rfl rfl ?_
    have hl5 : nx k4 < 9223372036854775808 := nx_lt _
    generalize hk5 : nx k4 = k5 at hl5 ⊢
    refine s_end ?_
    refine v_seq ?_
    refine v_reg ?_
    refine sy _ (zmv rfl (e rfl rfl)) rfl rfl ?_
    refine sy _ (zmv rfl (e rfl rfl)) rfl rfl ?_
    refine sy _ (zmv rfl (e rfl rfl)) rfl rfl ?_
    refine sd (.t ⟨false, [.d (dS (mt k5))]⟩) (zcall 1 (sc (dS (mt k5))) [] rfl (tr_markText k5 hl5) (ar (e rfl rfl) (.d .nil) .nil) rfl rfl rfl) rfl rfl rfl rfl ?_
    refine sy (.t ⟨false, [.ep 0 0 i 0]⟩) (zis tabOk rfl rfl rfl (e rfl rfl) rfl (e rfl rfl) (ltm_of_some hxi) (Nat.zero_add _)) rfl rfl ?_
    refine sy (.t ⟨false, [.ep 0 0 i 5]⟩) (zfa tabOk rfl rfl rfl (e rfl rfl) rfl rfl) rfl rfl ?_
    refine sw 0 (.row 6 (((mkTo mkRecord xs k i).map Record.cells).set i [dS (mt k0), dI (k1), dI (k2), dI (k3), dS (mt k4), dS (mt k5)]) true 0 0) (zsr0 tabOk rfl (e rfl rfl) rfl (set_get (mkTo_lt hxi)) (e rfl rfl) rfl (.lf .nil) rfl rfl (List.set_set _)) rfl rfl ?_
    refine s_end ?_
    refine v_reg ?_
    refine sy _ (zmv rfl (e rfl rfl)) rfl rfl ?_
    refine sy (.t ⟨false, [.d (dI (nx k5))]⟩) (y_bin rfl (e rfl rfl) (ec rfl) (fun _ => b_nx) rfl) rfl rfl ?_
    refine sy _ (zas rfl (e rfl rfl)) rfl rfl ?_
    have hl6 : nx k5 < 9223372036854775808 := nx_lt _
    generalize hk6 : nx k5 = k6 at hl6 ⊢
    refine s_end ?_
    refine blk_norm ?_
    refine v_reg ?_
    refine sy _ (zmv rfl (e rfl rfl)) rfl rfl ?_
    refine sy (.t ⟨false, [.d (dI ((i : Int) + 1))]⟩) (y_bin rfl (e rfl rfl) (ec rfl) (fun _ => b_addn (by omega) (by omega)) rfl) rfl rfl ?_
    refine sy _ (zas rfl (e rfl rfl)) rfl rfl ?_
    refine s_end ?_
    subst hk0 hk1 hk2 hk3 hk4 hk5 hk6
    exact lp_next (i + 1) hlt (by omega) ⟨rfl, congrArg (fun v => sc (dI v)) (kTo_succ (f := mkRecord) hxi).symm, rfl, trivial⟩ ⟨congrArg (fun l => VO.row 6 l true 0 0) (mkTo_set (f := mkRecord) (c := Record.cells) hxi), trivial⟩ rfl
  have hend : i = xs.length := by have := hb1; simp at this; omega
  refine v_exit ?_
  refine then_exit ?_
  refine loop_exit ?_
  refine blk_hit ?_
  refine v_seq ?_
  refine v_reg ?_
  refine sy _ (zmv rfl (e rfl rfl)) rfl rfl ?_
  refine sy _ (zas rfl (e rfl rfl)) rfl rfl ?_
  refine s_end ?_
  refine v_ret ?_
  have e1 : kTo mkRecord xs k i = (mkL mkRecord xs k).2 := kTo_end hend
  have e2 : ((mkTo mkRecord xs k i).map Record.cells) = (mkL mkRecord xs k).1.map Record.cells := by rw [mkTo_end hend]
  rw [← e1, ← e2]
  exact post_ret (rv (.tmp (eg rfl rfl)) rfl (.lf .nil) rfl .nil) (.mu rfl (.sl rfl (by rw [List.length_map, List.length_map, mkTo_len]) .nil) (.ro .nil)) rfl
end Go.Proofs.YtglilpigoocgeaaGreatDoor.V
