/-
  The families of laws of EntryS.
-/
import Derived.Test.YtkcpbahcnlhmjaaDoorTEntry
import Derived.Test.YtkcpbahcnlhmjaaDoorN
import Derived.Test.YtkcpbahcnlhmjaaDoorC
namespace Go.Proofs.YtkcpbahcnlhmjaaDoor.V
open Go
set_option linter.unusedVariables false
set_option linter.unusedSimpArgs false
set_option maxRecDepth 20000 in
theorem tr_szEntryS (xs : List Entry) (hb : bndL Entry.Bnd xs) (left : Int) (h0 : 0 ≤ left) (hl : left ≤ 1048576) : TrX Tryd.prog 57 [.ro ⟨false, [.sl 6 (xs.map Entry.cells)]⟩, .ro (one (dI left))] (resI fun r => 0 ≤ r → r + (wtL Entry.wt xs : Int) ≤ left ∧ fitL Entry.Fit xs) := by
  have hB := hb.1
  have hlm : (xs.map Entry.cells).length = xs.length := List.length_map _
  refine trX_go tabOk Tryd.func57 rfl rfl rfl rfl rfl (ov := [(0, .t ⟨false, [.d (.sl 6 (xs.map Entry.cells))]⟩), (1, .t ⟨false, [.d (dI (left))]⟩)]) (hv := []) rfl rfl ?_
  refine v_seq ?_
  refine v_reg ?_
  refine sy _ (zas rfl (ec rfl)) rfl rfl ?_
  refine s_end ?_
  refine v_seq ?_
  refine v_reg ?_
  refine sy _ (zmv rfl (e rfl rfl)) rfl rfl ?_
  refine sy _ (zmv rfl (e rfl rfl)) rfl rfl ?_
  refine sy (.t ⟨false, [.d (dI ((xs.map Entry.cells).length : Int))]⟩) (zln tabOk rfl rfl (e rfl rfl) .d) rfl rfl ?_
  refine sy (.t ⟨false, [.d (dI (left - ((xs.map Entry.cells).length : Int)))]⟩) (y_bin rfl (e rfl rfl) (e rfl rfl) (fun _ => b_subn (by omega) (by omega)) rfl) rfl rfl ?_
  refine sy _ (zas rfl (e rfl rfl)) rfl rfl ?_
  refine s_end ?_
  refine v_seq ?_
  refine v_seq ?_
  refine v_reg ?_
  refine sy _ (zmv rfl (e rfl rfl)) rfl rfl ?_
  refine sy (.t ⟨false, [.d (dB (decide ((left - ((xs.map Entry.cells).length : Int)) < (0))))]⟩) (y_bin rfl (e rfl rfl) (ec rfl) (fun _ => b_lss) rfl) rfl rfl ?_
  refine s_end ?_
  refine v_cond (e rfl rfl) (fun hb1 => ?_) fun hb1 => ?_
  · refine v_seq ?_
    refine v_reg ?_
    refine sy _ (zas rfl (ec rfl)) rfl rfl ?_
    refine s_end ?_
    refine v_ret ?_
    exact post_retX [one (dI (-1))] ⟨-1, fun h => by omega, rfl⟩ (rv (.tmp (eg rfl rfl)) rfl (.lf .nil) rfl .nil) (.ro (.ro .nil)) rfl
  have p2 : 0 ≤ left - ((xs.map Entry.cells).length : Int) := by have := hb1; simp at this; omega
  refine v_skip ?_
  refine v_seq ?_
  refine v_seq ?_
  refine v_reg ?_
  refine sy _ (zas rfl (ec rfl)) rfl rfl ?_
  refine s_end ?_
  refine v_block ?_
  refine v_lp (fun (q : Nat × Int) => [(0, .t ⟨false, [.d (.sl 6 (xs.map Entry.cells))]⟩), (1, .t ⟨false, [.d (dI (q.2))]⟩), (5, .t ⟨false, [.d (dI (q.1 : Int))]⟩)]) (fun _ => []) (fun q => q.1 ≤ xs.length ∧ 0 ≤ q.2 ∧ q.2 + (wtTo Entry.wt xs q.1 : Int) + xs.length ≤ left ∧ allTo Entry.Fit xs q.1) (fun q => xs.length - q.1) (0, left - ((xs.map Entry.cells).length : Int)) ⟨Nat.zero_le _, by simp only; omega, by simp only [wtTo, List.take_zero, List.map_nil, List.sum_nil]; omega, allTo_zero⟩ ⟨rfl, rfl, rfl, trivial⟩ trivial rfl (fun q hi => ?_)
  obtain ⟨i, lf⟩ := q
  have hi0 := hi.1; have hi1 := hi.2.1; have hi2 := hi.2.2.1
  simp only at hi0 hi1 hi2
  refine v_seq ?_
  refine v_seq ?_
  refine v_reg ?_
  refine sy _ (zmv rfl (e rfl rfl)) rfl rfl ?_
  refine sy _ (zmv rfl (e rfl rfl)) rfl rfl ?_
  refine sy (.t ⟨false, [.d (dI ((xs.map Entry.cells).length : Int))]⟩) (zln tabOk rfl rfl (e rfl rfl) .d) rfl rfl ?_
  refine sy (.t ⟨false, [.d (dB (decide (((i : Int)) < (((xs.map Entry.cells).length : Int)))))]⟩) (y_bin rfl (e rfl rfl) (e rfl rfl) (fun _ => b_lss) rfl) rfl rfl ?_
  refine s_end ?_
  refine v_cond (e rfl rfl) (fun hb3 => ?_) fun hb3 => ?_
  · have hlt : i < xs.length := by have := hb3; simp at this; omega
    obtain ⟨x, hxi⟩ := some_of_lt hlt
    have hbx := hb.2 _ (List.mem_of_getElem? hxi)
    refine v_skip ?_
    refine v_seq ?_
    refine v_block ?_
    refine v_seq ?_
    refine v_reg ?_
    refine sy _ (zmv rfl (e rfl rfl)) rfl rfl ?_
    refine sy _ (zmv rfl (e rfl rfl)) rfl rfl ?_
    refine sy (.t ⟨false, [.fe 6 (xs.map Entry.cells) i 0]⟩) (zix tabOk rfl rfl rfl (e rfl rfl) (e rfl rfl) (ltm_of_some hxi)) rfl rfl ?_
    refine sy (.t ⟨true, [.d (dS (x.Q.Name)), .d (dI (x.Q.Typ)), .d (dI (x.Kind)), .d (.sl 6 (x.L.map Record.cells)), .d (dI (x.Rank)), .d (dI (x.Until))]⟩) (zle tabOk rfl (e rfl rfl) (getm hxi) rfl rfl) rfl rfl ?_
    refine sy _ (zmv rfl (e rfl rfl)) rfl rfl ?_
    refine sxI (zcallX rfl (tr_szEntry x hbx lf (by omega) (by omega)) (ar (e rfl rfl) (.d (.d (.d (.d (.d (.d .nil)))))) (ar (e rfl rfl) (.d .nil) .nil))) rfl rfl (fun r4 hr4 => ?_)
    refine sy _ (zas rfl (e rfl rfl)) rfl rfl ?_
    refine s_end ?_
    refine v_seq ?_
    refine v_reg ?_
    refine sy _ (zmv rfl (e rfl rfl)) rfl rfl ?_
    refine sy (.t ⟨false, [.d (dB (decide ((r4) < (0))))]⟩) (y_bin rfl (e rfl rfl) (ec rfl) (fun _ => b_lss) rfl) rfl rfl ?_
    refine s_end ?_
    refine v_cond (e rfl rfl) (fun hb5 => ?_) fun hb5 => ?_
    · refine v_seq ?_
      refine v_reg ?_
      refine sy _ (zas rfl (ec rfl)) rfl rfl ?_
      refine s_end ?_
      refine v_ret ?_
      exact post_retX [one (dI (-1))] ⟨-1, fun h => by omega, rfl⟩ (rv (.tmp (eg rfl rfl)) rfl (.lf .nil) rfl .nil) (.ro (.ro .nil)) rfl
    have p6 : 0 ≤ r4 := by have := hb5; simp at this; omega
    refine v_skip ?_
    refine blk_norm ?_
    refine v_reg ?_
    refine sy _ (zmv rfl (e rfl rfl)) rfl rfl ?_
    refine sy (.t ⟨false, [.d (dI ((i : Int) + 1))]⟩) (y_bin rfl (e rfl rfl) (ec rfl) (fun _ => b_addn (by omega) (by omega)) rfl) rfl rfl ?_
    refine sy _ (zas rfl (e rfl rfl)) rfl rfl ?_
    refine s_end ?_
    have e1 := wtTo_succ (f := Entry.wt) hxi
    have e2 := hr4 p6
    have e3 := e2.1
    exact lp_next (i + 1, r4) ⟨hlt, by simp only; omega, by simp only; omega, allTo_succ hxi hi.2.2.2 e2.2⟩ (by simp only; omega) ⟨rfl, rfl, rfl, trivial⟩ trivial rfl
  have hend : i = xs.length := by have := hb3; simp at this; omega
  refine v_exit ?_
  refine then_exit ?_
  refine loop_exit ?_
  refine blk_hit ?_
  refine v_seq ?_
  refine v_reg ?_
  refine sy _ (zmv rfl (e rfl rfl)) rfl rfl ?_
  refine sy _ (zas rfl (e rfl rfl)) rfl rfl ?_
  refine s_end ?_
  refine v_ret ?_
  have e1 := wtTo_end (f := Entry.wt) hend
  exact post_retX [one (dI (lf))] ⟨lf, fun h => ⟨by rw [e1]; omega, ⟨by omega, allTo_end hend hi.2.2.2⟩⟩, rfl⟩ (rv (.tmp (eg rfl rfl)) rfl (.lf .nil) rfl .nil) (.ro (.ro .nil)) rfl
set_option maxRecDepth 20000 in
theorem tr_toEntryS (xs : List Entry) (hx : fitL Entry.Fit xs) : Tr Tryd.prog 62 [.ro ⟨false, [.sl 6 (xs.map Entry.cells)]⟩] [⟨false, [.sl 6 (xs.map Entry.cells)]⟩] := by
  refine tr_go tabOk Tryd.func62 rfl rfl rfl rfl rfl (ov := [(0, .t ⟨false, [.d (.sl 6 (xs.map Entry.cells))]⟩)]) (hv := []) rfl rfl ?_
  refine v_seq ?_
  refine v_reg ?_
  refine sy _ (zas rfl (en 6)) rfl rfl ?_
  refine s_end ?_
  refine v_seq ?_
  refine v_reg ?_
  refine sy _ (zmv rfl (e rfl rfl)) rfl rfl ?_
  refine sy (.t ⟨false, [.d (dI ((xs.map Entry.cells).length : Int))]⟩) (zln tabOk rfl rfl (e rfl rfl) .d) rfl rfl ?_
  refine sr 0 (.t ⟨false, [.sr 0 1 0 ((xs.map Entry.cells).length) ((xs.map Entry.cells).length)]⟩) (.row 6 (List.replicate ((xs.map Entry.cells).length) [dS (⟨#[]⟩), dI (0), dI (0), .sl 6 ([]), dI (0), dI (0)]) true 1 0) (zmk tabOk rfl rfl rfl (e rfl rfl) (e rfl rfl) (Nat.le_refl _) (mkok hx.1 rfl) rfl rfl) rfl rfl ?_
  refine sy _ (zas rfl (e rfl rfl)) rfl rfl ?_
  refine s_end ?_
  refine v_seq ?_
  refine v_seq ?_
  refine v_reg ?_
  refine sy _ (zas rfl (ec rfl)) rfl rfl ?_
  refine s_end ?_
  refine v_block ?_
  have hB := hx.1
  refine v_lp (fun (i : Nat) => [(0, .t ⟨false, [.d (.sl 6 (xs.map Entry.cells))]⟩), (3, .t ⟨false, [.sr 0 1 0 ((xs.map Entry.cells).length) ((xs.map Entry.cells).length)]⟩), (4, .t ⟨false, [.d (dI (i : Int))]⟩)]) (fun i => [(0, .row 6 (fill Entry.cells xs [dS (⟨#[]⟩), dI (0), dI (0), .sl 6 ([]), dI (0), dI (0)] i) true 1 i)]) (fun i => i ≤ xs.length) (fun i => xs.length - i) 0 (Nat.zero_le _) ⟨rfl, rfl, rfl, trivial⟩ ⟨congrArg (fun l => VO.row 6 l true 1 0) fill0, trivial⟩ rfl (fun i hi => ?_)
  refine v_seq ?_
  refine v_seq ?_
  refine v_reg ?_
  refine sy _ (zmv rfl (e rfl rfl)) rfl rfl ?_
  refine sy _ (zmv rfl (e rfl rfl)) rfl rfl ?_
  refine sy (.t ⟨false, [.d (dI ((xs.map Entry.cells).length : Int))]⟩) (zln tabOk rfl rfl (e rfl rfl) .d) rfl rfl ?_
  refine sy (.t ⟨false, [.d (dB (decide (((i : Int)) < (((xs.map Entry.cells).length : Int)))))]⟩) (y_bin rfl (e rfl rfl) (e rfl rfl) (fun _ => b_lss) rfl) rfl rfl ?_
  refine s_end ?_
  refine v_cond (e rfl rfl) (fun hb1 => ?_) fun hb1 => ?_
  · have hlt : i < xs.length := by have := hb1; simp at this; omega
    obtain ⟨x, hxi⟩ := some_of_lt hlt
    refine v_skip ?_
    refine v_seq ?_
    refine v_block ?_
    refine v_reg ?_
    refine sy _ (zmv rfl (e rfl rfl)) rfl rfl ?_
    refine sy _ (zmv rfl (e rfl rfl)) rfl rfl ?_
    refine sy _ (zmv rfl (e rfl rfl)) rfl rfl ?_
    refine sy _ (zmv rfl (e rfl rfl)) rfl rfl ?_
    refine sy (.t ⟨false, [.fe 6 (xs.map Entry.cells) i 0]⟩) (zix tabOk rfl rfl rfl (e rfl rfl) (e rfl rfl) (ltm_of_some hxi)) rfl rfl ?_
    refine sy (.t ⟨true, [.d (dS (x.Q.Name)), .d (dI (x.Q.Typ)), .d (dI (x.Kind)), .d (.sl 6 (x.L.map Record.cells)), .d (dI (x.Rank)), .d (dI (x.Until))]⟩) (zle tabOk rfl (e rfl rfl) (getm hxi) rfl rfl) rfl rfl ?_
    refine sd (.t ⟨true, [.d (dS (x.Q.Name)), .d (dI (x.Q.Typ)), .d (dI (x.Kind)), .sr 1 1 0 ((x.L.map Record.cells).length) ((x.L.map Record.cells).length), .d (dI (x.Rank)), .d (dI (x.Until))]⟩) (zcall 1 (.t ⟨true, [.d (dS (x.Q.Name)), .d (dI (x.Q.Typ)), .d (dI (x.Kind)), .sr 1 1 0 ((x.L.map Record.cells).length) ((x.L.map Record.cells).length), .d (dI (x.Rank)), .d (dI (x.Until))]⟩) [(1, .row 6 (x.L.map Record.cells) true 1 0)] rfl (tr_toEntry x ((hx.2 _ (List.mem_of_getElem? hxi)))) (ar (e rfl rfl) (.d (.d (.d (.d (.d (.d .nil)))))) .nil) rfl rfl rfl) rfl rfl rfl rfl ?_
    refine sy (.t ⟨false, [.ep 0 1 i 0]⟩) (zis tabOk rfl rfl rfl (e rfl rfl) rfl (e rfl rfl) (ltm_of_some hxi) (Nat.zero_add _)) rfl rfl ?_
    refine swk 0 (.row 6 (fill Entry.cells xs [dS (⟨#[]⟩), dI (0), dI (0), .sl 6 ([]), dI (0), dI (0)] (i + 1)) true 1 (i + 1)) (zsg tabOk rfl (e rfl rfl) rfl (fill_get hxi) (e rfl rfl) rfl (.lf (.lf (.lf (.sr rfl le_all take_all (.lf (.lf .nil)))))) rfl rfl (fill_set (f := Entry.cells) hxi)) rfl rfl ?_
    refine s_end ?_
    refine blk_norm ?_
    refine v_reg ?_
    refine sy _ (zmv rfl (e rfl rfl)) rfl rfl ?_
    refine sy (.t ⟨false, [.d (dI ((i : Int) + 1))]⟩) (y_bin rfl (e rfl rfl) (ec rfl) (fun _ => b_addn (by omega) (by omega)) rfl) rfl rfl ?_
    refine sy _ (zas rfl (e rfl rfl)) rfl rfl ?_
    refine s_end ?_
    exact lp_next (i + 1) hlt (by omega) ⟨rfl, rfl, rfl, trivial⟩ ⟨rfl, trivial⟩ rfl
  have hend : i = xs.length := by have := hb1; simp at this; omega
  refine v_exit ?_
  refine then_exit ?_
  refine loop_exit ?_
  refine blk_hit ?_
  refine v_seq ?_
  refine v_reg ?_
  refine sy _ (zmv rfl (e rfl rfl)) rfl rfl ?_
  refine sy _ (zas rfl (e rfl rfl)) rfl rfl ?_
  refine s_end ?_
  refine v_ret ?_
  exact post_ret (rv (.tmp (eg rfl rfl)) rfl (.sr rfl (fill_le hend) (fill_end hend) .nil) rfl .nil) (.ro .nil) rfl
set_option maxRecDepth 20000 in
theorem tr_eqEntryS (xs ys : List Entry) (hx : fitL Entry.Fit xs) (hy : fitL Entry.Fit ys) : Tr Tryd.prog 67 [.ro ⟨false, [.sl 6 (xs.map Entry.cells)]⟩, .ro ⟨false, [.sl 6 (ys.map Entry.cells)]⟩] [one (dB (decide (xs = ys)))] := by
  refine tr_go tabOk Tryd.func67 rfl rfl rfl rfl rfl (ov := [(0, .t ⟨false, [.d (.sl 6 (xs.map Entry.cells))]⟩), (1, .t ⟨false, [.d (.sl 6 (ys.map Entry.cells))]⟩)]) (hv := []) rfl rfl ?_
  refine v_seq ?_
  refine v_reg ?_
  refine sy _ (zas rfl (ec rfl)) rfl rfl ?_
  refine s_end ?_
  refine v_seq ?_
  refine v_seq ?_
  refine v_reg ?_
  refine sy _ (zmv rfl (e rfl rfl)) rfl rfl ?_
  refine sy (.t ⟨false, [.d (dI ((xs.map Entry.cells).length : Int))]⟩) (zln tabOk rfl rfl (e rfl rfl) .d) rfl rfl ?_
  refine sy _ (zmv rfl (e rfl rfl)) rfl rfl ?_
  refine sy (.t ⟨false, [.d (dI ((ys.map Entry.cells).length : Int))]⟩) (zln tabOk rfl rfl (e rfl rfl) .d) rfl rfl ?_
  refine sy (.t ⟨false, [.d (dB (decide ((((xs.map Entry.cells).length : Int)) ≠ (((ys.map Entry.cells).length : Int)))))]⟩) (y_bin rfl (e rfl rfl) (e rfl rfl) (fun _ => b_neq) rfl) rfl rfl ?_
  refine s_end ?_
  refine v_cond (e rfl rfl) (fun hb1 => ?_) fun hb1 => ?_
  · refine v_seq ?_
    refine v_reg ?_
    refine sy _ (zas rfl (ec rfl)) rfl rfl ?_
    refine s_end ?_
    refine v_ret ?_
    have hr : decide (xs = ys) = false := by simp at hb1 ⊢; intro h; subst h; exact hb1 rfl
    rw [hr]
    exact post_ret (rv (.tmp (eg rfl rfl)) rfl (.lf .nil) rfl .nil) (.ro (.ro .nil)) rfl
  have hlen : xs.length = ys.length := by have := hb1; simp at this; omega
  refine v_skip ?_
  refine v_seq ?_
  refine v_seq ?_
  refine v_reg ?_
  refine sy _ (zas rfl (ec rfl)) rfl rfl ?_
  refine s_end ?_
  refine v_block ?_
  have hB := hx.1
  refine v_lp (fun (i : Nat) => [(0, .t ⟨false, [.d (.sl 6 (xs.map Entry.cells))]⟩), (1, .t ⟨false, [.d (.sl 6 (ys.map Entry.cells))]⟩), (5, .t ⟨false, [.d (dI (i : Int))]⟩)]) (fun _ => []) (fun i => i ≤ xs.length ∧ xs.take i = ys.take i) (fun i => xs.length - i) 0 ⟨Nat.zero_le _, rfl⟩ ⟨rfl, rfl, rfl, trivial⟩ trivial rfl (fun i hi => ?_)
  refine v_seq ?_
  refine v_seq ?_
  refine v_reg ?_
  refine sy _ (zmv rfl (e rfl rfl)) rfl rfl ?_
  refine sy _ (zmv rfl (e rfl rfl)) rfl rfl ?_
  refine sy (.t ⟨false, [.d (dI ((xs.map Entry.cells).length : Int))]⟩) (zln tabOk rfl rfl (e rfl rfl) .d) rfl rfl ?_
  refine sy (.t ⟨false, [.d (dB (decide (((i : Int)) < (((xs.map Entry.cells).length : Int)))))]⟩) (y_bin rfl (e rfl rfl) (e rfl rfl) (fun _ => b_lss) rfl) rfl rfl ?_
  refine s_end ?_
  refine v_cond (e rfl rfl) (fun hb2 => ?_) fun hb2 => ?_
  · have hlt : i < xs.length := by simpa using hb2
    obtain ⟨x, hxi⟩ := some_of_lt hlt
    obtain ⟨y, hyi⟩ := some_of_lt (l := ys) (i := i) (by omega)
    refine v_skip ?_
    refine v_seq ?_
    refine v_block ?_
    refine v_seq ?_
    refine v_drw [⟨.t ⟨false, [.d (.sl 6 (xs.map Entry.cells))]⟩, [], [0], [], false⟩, ⟨.t ⟨false, [.d (dI (i : Int))]⟩, [], [5], [], false⟩, ⟨.t ⟨false, [.fe 6 (xs.map Entry.cells) i 0]⟩, [], [17, 18], [], false⟩, ⟨.t ⟨true, [.d (dS (x.Q.Name)), .d (dI (x.Q.Typ)), .d (dI (x.Kind)), .d (.sl 6 (x.L.map Record.cells)), .d (dI (x.Rank)), .d (dI (x.Until))]⟩, [], [19], [], false⟩, ⟨.t ⟨false, [.d (.sl 6 (ys.map Entry.cells))]⟩, [], [1], [], false⟩, ⟨.t ⟨false, [.d (dI (i : Int))]⟩, [], [5], [], false⟩, ⟨.t ⟨false, [.fe 6 (ys.map Entry.cells) i 0]⟩, [], [21, 22], [], false⟩, ⟨.t ⟨true, [.d (dS (y.Q.Name)), .d (dI (y.Q.Typ)), .d (dI (y.Kind)), .d (.sl 6 (y.L.map Record.cells)), .d (dI (y.Rank)), .d (dI (y.Until))]⟩, [], [23], [], false⟩, ⟨.t ⟨false, [.d (dB (decide (x = y)))]⟩, [], [20, 24], [], false⟩, ⟨.t ⟨false, [.d (dB (!(decide (x = y))))]⟩, [], [25], [], false⟩] mixed rfl rfl rfl rfl ⟨gN rfl rfl (fun t h A => dy (zmv rfl (A.e rfl rfl rfl))), gN rfl rfl (fun t h A => dy (zmv rfl (A.e rfl rfl rfl))), gN rfl rfl (fun t h A => dy (zix tabOk rfl rfl rfl (A.e rfl rfl rfl) (A.e rfl rfl rfl) (ltm_of_some hxi))), gN rfl rfl (fun t h A => dy (zle tabOk rfl (A.e rfl rfl rfl) (getm hxi) rfl rfl)), gN rfl rfl (fun t h A => dy (zmv rfl (A.e rfl rfl rfl))), gN rfl rfl (fun t h A => dy (zmv rfl (A.e rfl rfl rfl))), gN rfl rfl (fun t h A => dy (zix tabOk rfl rfl rfl (A.e rfl rfl rfl) (A.e rfl rfl rfl) (ltm_of_some hyi))), gN rfl rfl (fun t h A => dy (zle tabOk rfl (A.e rfl rfl rfl) (getm hyi) rfl rfl)), gN rfl rfl (fun t h A => zcallA 0 (.t ⟨false, [.d (dB (decide (x = y)))]⟩) [] rfl (tr_eqEntry x y ((hx.2 _ (List.mem_of_getElem? hxi))) ((hy.2 _ (List.mem_of_getElem? hyi)))) (ar (A.e rfl rfl rfl) (.d (.d (.d (.d (.d (.d .nil)))))) (ar (A.e rfl rfl rfl) (.d (.d (.d (.d (.d (.d .nil)))))) .nil)) rfl (free0 rfl) rfl rfl), gN rfl rfl (fun t h A => dy (y_un rfl (A.e rfl rfl rfl) (fun _ => u_not) rfl)), trivial⟩ ?_
    refine s_end ?_
    refine v_cond (e rfl rfl) (fun hb3 => ?_) fun hb3 => ?_
    · refine v_seq ?_
      refine v_reg ?_
      refine sy _ (zas rfl (ec rfl)) rfl rfl ?_
      refine s_end ?_
      refine v_ret ?_
      have hr : decide (xs = ys) = false := by
        have hne : x ≠ y := by have := hb3; simpa using this
        simp only [decide_eq_false_iff_not]; intro h; subst h; rw [hxi] at hyi; injection hyi with hyi; exact hne hyi
      rw [hr]
      exact post_ret (rv (.tmp (eg rfl rfl)) rfl (.lf .nil) rfl .nil) (.ro (.ro .nil)) rfl
    refine v_skip ?_
    refine blk_norm ?_
    refine v_reg ?_
    refine sy _ (zmv rfl (e rfl rfl)) rfl rfl ?_
    refine sy (.t ⟨false, [.d (dI ((i : Int) + 1))]⟩) (y_bin rfl (e rfl rfl) (ec rfl) (fun _ => b_addn (by omega) (by omega)) rfl) rfl rfl ?_
    refine sy _ (zas rfl (e rfl rfl)) rfl rfl ?_
    refine s_end ?_
    have hxy : x = y := by have := hb3; simpa using this
    subst hxy
    exact lp_next (i + 1) ⟨hlt, by rw [List.take_add_one, List.take_add_one, hi.2, hxi, hyi]⟩ (by omega) ⟨rfl, rfl, rfl, trivial⟩ trivial rfl
  refine v_exit ?_
  refine then_exit ?_
  refine loop_exit ?_
  refine blk_hit ?_
  refine v_seq ?_
  refine v_reg ?_
  refine sy _ (zas rfl (ec rfl)) rfl rfl ?_
  refine s_end ?_
  refine v_ret ?_
  have hr : decide (xs = ys) = true := by
    have : i = xs.length := by have := hb2; simp at this; omega
    subst this
    have h5 := hi.2; rw [List.take_length, hlen, List.take_length] at h5; simpa using h5
  rw [hr]
  exact post_ret (rv (.tmp (eg rfl rfl)) rfl (.lf .nil) rfl .nil) (.ro (.ro .nil)) rfl
end Go.Proofs.YtkcpbahcnlhmjaaDoor.V
