/-
  What the marks say.
-/
import Derived.Test.YtkcpbahcnlhmjaaC
namespace Go.Proofs.Ytkcpbahcnlhmjaa.V
open Go
set_option linter.unusedVariables false
set_option linter.unusedSimpArgs false
set_option maxRecDepth 20000 in
theorem tr_heldRecordS (xs ys : List Record) (hx : fitL Record.Fit xs) (k : Int) (h0 : 0 ≤ k) (h1 : k + 16 * (wtL Record.wt xs : Int) < 4611686018427387904) (hys : ys = (mkL mkRecord xs k).1) : Tr Try.prog 73 [.ro (one (.sl 6 (ys.map Record.cells))), .ro (one (dI k))] [one (dI (mkL mkRecord xs k).2)] := by
  have hlen : ys.length = xs.length := by rw [hys, mkL_len]
  refine tr_go tabOk Try.func73 rfl rfl rfl rfl rfl (ov := [(0, .t ⟨false, [.d (.sl 6 (ys.map Record.cells))]⟩), (1, .t ⟨false, [.d (dI (k))]⟩)]) (hv := []) rfl rfl ?_
  refine v_seq ?_
  refine v_reg ?_
  refine sy _ (zas rfl (ec rfl)) rfl rfl ?_
  refine s_end ?_
  refine v_seq ?_
  refine v_seq ?_
  refine v_reg ?_
  refine sy _ (zas rfl (ec rfl)) rfl rfl ?_
  refine s_end ?_
  refine v_block ?_
  have hB := hx.1
  refine v_lp (fun (i : Nat) => [(0, .t ⟨false, [.d (.sl 6 (ys.map Record.cells))]⟩), (1, .t ⟨false, [.d (dI (kTo mkRecord xs k i))]⟩), (5, .t ⟨false, [.d (dI (i : Int))]⟩)]) (fun _ => []) (fun i => i ≤ xs.length) (fun i => xs.length - i) 0 (Nat.zero_le _) ⟨rfl, congrArg (fun v => sc (dI v)) kTo_zero.symm, rfl, trivial⟩ trivial rfl (fun i hi => ?_)
  refine v_seq ?_
  refine v_seq ?_
  refine v_reg ?_
  refine sy _ (zmv rfl (e rfl rfl)) rfl rfl ?_
  refine sy _ (zmv rfl (e rfl rfl)) rfl rfl ?_
  refine sy (.t ⟨false, [.d (dI ((ys.map Record.cells).length : Int))]⟩) (zln tabOk rfl rfl (e rfl rfl) .d) rfl rfl ?_
  refine sy (.t ⟨false, [.d (dB (decide (((i : Int)) < (((ys.map Record.cells).length : Int)))))]⟩) (y_bin rfl (e rfl rfl) (e rfl rfl) (fun _ => b_lss) rfl) rfl rfl ?_
  refine s_end ?_
  refine v_cond (e rfl rfl) (fun hb1 => ?_) fun hb1 => ?_
  · have hlt : i < xs.length := by have := hb1; simp at this; omega
    obtain ⟨x, hxi⟩ := some_of_lt hlt
    have hg := mkL_get (f := mkRecord) (k := k) hxi
    rw [← hys] at hg
    have hge := kTo_ge (i := i) mkRecord_ok h0 h1
    rw [drop_wt hxi] at hge
    simp only [Record.wt] at hge
    generalize hk0 : kTo mkRecord xs k i = k0 at hg hge ⊢
    obtain ⟨y, hy⟩ : ∃ y, y = (mkRecord x k0).1 := ⟨_, rfl⟩
    rw [← hy] at hg
    have hf0 : y.Name = mt k0 := by rw [hy]; rfl
    refine v_skip ?_
    refine v_seq ?_
    refine v_block ?_
    refine v_seq ?_
    refine v_seq ?_
    refine v_drw [⟨.t ⟨false, [.d (.sl 6 (ys.map Record.cells))]⟩, [], [0], []⟩, ⟨.t ⟨false, [.d (dI (i : Int))]⟩, [], [5], []⟩, ⟨.t ⟨false, [.fe 6 (ys.map Record.cells) i 0]⟩, [], [12, 13], []⟩, ⟨.t ⟨false, [.fe 6 (ys.map Record.cells) i 0]⟩, [], [14], []⟩, ⟨.t ⟨false, [.d (dS (y.Name))]⟩, [], [15], []⟩, ⟨.t ⟨false, [.d (dI (k0))]⟩, [], [1], []⟩, ⟨.t ⟨false, [.d (dS (mt k0))]⟩, [], [17], []⟩, ⟨.t ⟨false, [.d (dB (decide ((y.Name) ≠ (mt k0))))]⟩, [], [16, 18], []⟩] mixed rfl rfl rfl rfl ⟨fun t h A => dy (zmv rfl (A.e rfl rfl rfl)), fun t h A => dy (zmv rfl (A.e rfl rfl rfl)), fun t h A => dy (zix tabOk rfl rfl rfl (A.e rfl rfl rfl) (A.e rfl rfl rfl) (ltm_of_some hg)), fun t h A => dy (zfa tabOk rfl rfl rfl (A.e rfl rfl rfl) rfl rfl), fun t h A => dy (zle tabOk rfl (A.e rfl rfl rfl) (getm hg) rfl rfl), fun t h A => dy (zmv rfl (A.e rfl rfl rfl)), fun t h A => zcallA 0 (sc (dS (mt k0))) [] rfl (tr_markText k0 (by omega)) (ar (A.e rfl rfl rfl) (.d .nil) .nil) rfl (free0 rfl) rfl rfl, fun t h A => dy (y_bin rfl (A.e rfl rfl rfl) (A.e rfl rfl rfl) (fun _ => b_sneq) rfl), trivial⟩ ?_
    refine s_end ?_
    refine v_cond (e rfl rfl) (fun hb2 => ?_) fun hb2 => ?_
    · exact absurd hb2 (by simp [hf0])
    refine v_skip ?_
    refine v_seq ?_
    refine v_reg ?_
    refine sy _ (zmv rfl (e rfl rfl)) rfl rfl ?_
    refine sy (.t ⟨false, [.d (dI (nx k0))]⟩) (y_bin rfl (e rfl rfl) (ec rfl) (fun _ => b_nx) rfl) rfl rfl ?_
    refine sy _ (zas rfl (e rfl rfl)) rfl rfl ?_
    have hg1 := nx_eq (k := k0) (by omega) (by omega)
    generalize hk1 : nx k0 = k1 at hg1 ⊢
    have hf1 : y.Typ = k1 := by rw [hy]; subst hk1; rfl
    refine s_end ?_
    refine v_seq ?_
    refine v_seq ?_
    refine v_reg ?_
    refine sy _ (zmv rfl (e rfl rfl)) rfl rfl ?_
    refine sy _ (zmv rfl (e rfl rfl)) rfl rfl ?_
    refine sy (.t ⟨false, [.fe 6 (ys.map Record.cells) i 0]⟩) (zix tabOk rfl rfl rfl (e rfl rfl) (e rfl rfl) (ltm_of_some hg)) rfl rfl ?_
    refine sy (.t ⟨false, [.fe 6 (ys.map Record.cells) i 1]⟩) (zfa tabOk rfl rfl rfl (e rfl rfl) rfl rfl) rfl rfl ?_
    refine sy (.t ⟨false, [.d (dI (y.Typ))]⟩) (zle tabOk rfl (e rfl rfl) (getm hg) rfl rfl) rfl rfl ?_
    refine sy _ (zmv rfl (e rfl rfl)) rfl rfl ?_
    refine sy (.t ⟨false, [.d (dB (decide ((y.Typ) ≠ (k1))))]⟩) (y_bin rfl (e rfl rfl) (e rfl rfl) (fun _ => b_neq) rfl) rfl rfl ?_
    refine s_end ?_
    refine v_cond (e rfl rfl) (fun hb3 => ?_) fun hb3 => ?_
    · exact absurd hb3 (by simp [hf1])
    refine v_skip ?_
    refine v_seq ?_
    refine v_reg ?_
    refine sy _ (zmv rfl (e rfl rfl)) rfl rfl ?_
    refine sy (.t ⟨false, [.d (dI (nx k1))]⟩) (y_bin rfl (e rfl rfl) (ec rfl) (fun _ => b_nx) rfl) rfl rfl ?_
    refine sy _ (zas rfl (e rfl rfl)) rfl rfl ?_
    have hg2 := nx_eq (k := k1) (by omega) (by omega)
    generalize hk2 : nx k1 = k2 at hg2 ⊢
    have hf2 : y.Ttl = k2 := by rw [hy]; subst hk1 hk2; rfl
    refine s_end ?_
    refine v_seq ?_
    refine v_seq ?_
    refine v_reg ?_
    refine sy _ (zmv rfl (e rfl rfl)) rfl rfl ?_
    refine sy _ (zmv rfl (e rfl rfl)) rfl rfl ?_
    refine sy (.t ⟨false, [.fe 6 (ys.map Record.cells) i 0]⟩) (zix tabOk rfl rfl rfl (e rfl rfl) (e rfl rfl) (ltm_of_some hg)) rfl rfl ?_
    refine sy (.t ⟨false, [.fe 6 (ys.map Record.cells) i 2]⟩) (zfa tabOk rfl rfl rfl (e rfl rfl) rfl rfl) rfl rfl ?_
    refine sy (.t ⟨false, [.d (dI (y.Ttl))]⟩) (zle tabOk rfl (e rfl rfl) (getm hg) rfl rfl) rfl rfl ?_
    refine sy _ (zmv rfl (e rfl rfl)) rfl rfl ?_
    refine sy (.t ⟨false, [.d (dB (decide ((y.Ttl) ≠ (k2))))]⟩) (y_bin rfl (e rfl rfl) (e rfl rfl) (fun _ => b_neq) rfl) rfl rfl ?_
    refine s_end ?_
    refine v_cond (e rfl rfl) (fun hb4 => ?_) fun hb4 => ?_
    · exact absurd hb4 (by simp [hf2])
    refine v_skip ?_
    refine v_seq ?_
    refine v_reg ?_
    refine sy _ (zmv rfl (e rfl rfl)) rfl rfl ?_
    refine sy (.t ⟨false, [.d (dI (nx k2))]⟩) (y_bin rfl (e rfl rfl) (ec rfl) (fun _ => b_nx) rfl) rfl rfl ?_
    refine sy _ (zas rfl (e rfl rfl)) rfl rfl ?_
    have hg3 := nx_eq (k := k2) (by omega) (by omega)
    generalize hk3 : nx k2 = k3 at hg3 ⊢
    have hf3 : y.N = k3 := by rw [hy]; subst hk1 hk2 hk3; rfl
    refine s_end ?_
    refine v_seq ?_
    refine v_seq ?_
    refine v_reg ?_
    refine sy _ (zmv rfl (e rfl rfl)) rfl rfl ?_
    refine sy _ (zmv rfl (e rfl rfl)) rfl rfl ?_
    refine sy (.t ⟨false, [.fe 6 (ys.map Record.cells) i 0]⟩) (zix tabOk rfl rfl rfl (e rfl rfl) (e rfl rfl) (ltm_of_some hg)) rfl rfl ?_
    refine sy (.t ⟨false, [.fe 6 (ys.map Record.cells) i 3]⟩) (zfa tabOk rfl rfl rfl (e rfl rfl) rfl rfl) rfl rfl ?_
    refine sy (.t ⟨false, [.d (dI (y.N))]⟩) (zle tabOk rfl (e rfl rfl) (getm hg) rfl rfl) rfl rfl ?_
    refine sy _ (zmv rfl (e rfl rfl)) rfl rfl ?_
    refine sy (.t ⟨false, [.d (dB (decide ((y.N) ≠ (k3))))]⟩) (y_bin rfl (e rfl rfl) (e rfl rfl) (fun _ => b_neq) rfl) rfl rfl ?_
    refine s_end ?_
    refine v_cond (e rfl rfl) (fun hb5 => ?_) fun hb5 => ?_
    · exact absurd hb5 (by simp [hf3])
    refine v_skip ?_
    refine v_seq ?_
    refine v_reg ?_
    refine sy _ (zmv rfl (e rfl rfl)) rfl rfl ?_
    refine sy (.t ⟨false, [.d (dI (nx k3))]⟩) (y_bin rfl (e rfl rfl) (ec rfl) (fun _ => b_nx) rfl) rfl rfl ?_
    refine sy _ (zas rfl (e rfl rfl)) rfl rfl ?_
    have hg4 := nx_eq (k := k3) (by omega) (by omega)
    generalize hk4 : nx k3 = k4 at hg4 ⊢
    have hf4 : y.Host = mt k4 := by rw [hy]; subst hk1 hk2 hk3 hk4; rfl
    refine s_end ?_
    refine v_seq ?_
    refine v_seq ?_
    refine v_drw [⟨.t ⟨false, [.d (.sl 6 (ys.map Record.cells))]⟩, [], [0], []⟩, ⟨.t ⟨false, [.d (dI (i : Int))]⟩, [], [5], []⟩, ⟨.t ⟨false, [.fe 6 (ys.map Record.cells) i 0]⟩, [], [49, 50], []⟩, ⟨.t ⟨false, [.fe 6 (ys.map Record.cells) i 4]⟩, [], [51], []⟩, ⟨.t ⟨false, [.d (dS (y.Host))]⟩, [], [52], []⟩, ⟨.t ⟨false, [.d (dI (k4))]⟩, [], [1], []⟩, ⟨.t ⟨false, [.d (dS (mt k4))]⟩, [], [54], []⟩, ⟨.t ⟨false, [.d (dB (decide ((y.Host) ≠ (mt k4))))]⟩, [], [53, 55], []⟩] mixed rfl rfl rfl rfl ⟨fun t h A => dy (zmv rfl (A.e rfl rfl rfl)), fun t h A => dy (zmv rfl (A.e rfl rfl rfl)), fun t h A => dy (zix tabOk rfl rfl rfl (A.e rfl rfl rfl) (A.e rfl rfl rfl) (ltm_of_some hg)), fun t h A => dy (zfa tabOk rfl rfl rfl (A.e rfl rfl rfl) rfl rfl), fun t h A => dy (zle tabOk rfl (A.e rfl rfl rfl) (getm hg) rfl rfl), fun t h A => dy (zmv rfl (A.e rfl rfl rfl)), fun t h A => zcallA 0 (sc (dS (mt k4))) [] rfl (tr_markText k4 (by omega)) (ar (A.e rfl rfl rfl) (.d .nil) .nil) rfl (free0 rfl) rfl rfl, fun t h A => dy (y_bin rfl (A.e rfl rfl rfl) (A.e rfl rfl rfl) (fun _ => b_sneq) rfl), trivial⟩ ?_
    refine s_end ?_
    refine v_cond (e rfl rfl) (fun hb6 => ?_) fun hb6 => ?_
    · exact absurd hb6 (by simp [hf4])
    refine v_skip ?_
    refine v_seq ?_
    refine v_reg ?_
    refine sy _ (zmv rfl (e rfl rfl)) rfl rfl ?_
    refine sy (.t ⟨false, [.d (dI (nx k4))]⟩) (y_bin rfl (e rfl rfl) (ec rfl) (fun _ => b_nx) rfl) rfl rfl ?_
    refine sy _ (zas rfl (e rfl rfl)) rfl rfl ?_
    have hg5 := nx_eq (k := k4) (by omega) (by omega)
    generalize hk5 : nx k4 = k5 at hg5 ⊢
    have hf5 : y.Text = mt k5 := by rw [hy]; subst hk1 hk2 hk3 hk4 hk5; rfl
    refine s_end ?_
    refine v_seq ?_
    refine v_seq ?_
    refine v_drw [⟨.t ⟨false, [.d (.sl 6 (ys.map Record.cells))]⟩, [], [0], []⟩, ⟨.t ⟨false, [.d (dI (i : Int))]⟩, [], [5], []⟩, ⟨.t ⟨false, [.fe 6 (ys.map Record.cells) i 0]⟩, [], [59, 60], []⟩, ⟨.t ⟨false, [.fe 6 (ys.map Record.cells) i 5]⟩, [], [61], []⟩, ⟨.t ⟨false, [.d (dS (y.Text))]⟩, [], [62], []⟩, ⟨.t ⟨false, [.d (dI (k5))]⟩, [], [1], []⟩, ⟨.t ⟨false, [.d (dS (mt k5))]⟩, [], [64], []⟩, ⟨.t ⟨false, [.d (dB (decide ((y.Text) ≠ (mt k5))))]⟩, [], [63, 65], []⟩] mixed rfl rfl rfl rfl ⟨fun t h A => dy (zmv rfl (A.e rfl rfl rfl)), fun t h A => dy (zmv rfl (A.e rfl rfl rfl)), fun t h A => dy (zix tabOk rfl rfl rfl (A.e rfl rfl rfl) (A.e rfl rfl rfl) (ltm_of_some hg)), fun t h A => dy (zfa tabOk rfl rfl rfl (A.e rfl rfl rfl) rfl rfl), fun t h A => dy (zle tabOk rfl (A.e rfl rfl rfl) (getm hg) rfl rfl), fun t h A => dy (zmv rfl (A.e rfl rfl rfl)), fun t h A => zcallA 0 (sc (dS (mt k5))) [] rfl (tr_markText k5 (by omega)) (ar (A.e rfl rfl rfl) (.d .nil) .nil) rfl (free0 rfl) rfl rfl, fun t h A => dy (y_bin rfl (A.e rfl rfl rfl) (A.e rfl rfl rfl) (fun _ => b_sneq) rfl), trivial⟩ ?_
    refine s_end ?_
    refine v_cond (e rfl rfl) (fun hb7 => ?_) fun hb7 => ?_
    · exact absurd hb7 (by simp [hf5])
    refine v_skip ?_
    refine v_reg ?_
    refine sy _ (zmv rfl (e rfl rfl)) rfl rfl ?_
    refine sy (.t ⟨false, [.d (dI (nx k5))]⟩) (y_bin rfl (e rfl rfl) (ec rfl) (fun _ => b_nx) rfl) rfl rfl ?_
    refine sy _ (zas rfl (e rfl rfl)) rfl rfl ?_
    have hg6 := nx_eq (k := k5) (by omega) (by omega)
    generalize hk6 : nx k5 = k6 at hg6 ⊢
    refine s_end ?_
    refine blk_norm ?_
    refine v_reg ?_
    refine sy _ (zmv rfl (e rfl rfl)) rfl rfl ?_
    refine sy (.t ⟨false, [.d (dI ((i : Int) + 1))]⟩) (y_bin rfl (e rfl rfl) (ec rfl) (fun _ => b_addn (by omega) (by omega)) rfl) rfl rfl ?_
    refine sy _ (zas rfl (e rfl rfl)) rfl rfl ?_
    refine s_end ?_
    subst hk1 hk2 hk3 hk4 hk5 hk6
    subst hk0
    exact lp_next (i + 1) hlt (by omega) ⟨rfl, congrArg (fun v => sc (dI v)) (kTo_succ (f := mkRecord) hxi).symm, rfl, trivial⟩ trivial rfl
  have hend : i = xs.length := by have := hb1; simp at this; omega
  refine v_exit ?_
  refine then_exit ?_
  refine loop_exit ?_
  refine blk_hit ?_
  refine v_seq ?_
  refine v_reg ?_
  refine sy _ (zmv rfl (e rfl rfl)) rfl rfl ?_
  refine sy _ (zas rfl (e rfl rfl)) rfl rfl ?_
  refine s_end ?_
  refine v_ret ?_
  have e1 : kTo mkRecord xs k i = (mkL mkRecord xs k).2 := kTo_end hend
  rw [← e1]
  exact post_ret (rv (.tmp (eg rfl rfl)) rfl (.lf .nil) rfl .nil) (.ro (.ro .nil)) rfl
set_option maxRecDepth 20000 in
theorem tr_heldIntS (xs ys : List Int) (hx : fitL fitU xs) (k : Int) (h0 : 0 ≤ k) (h1 : k + 16 * (wtL wtU xs : Int) < 4611686018427387904) (hys : ys = (mkL mkI xs k).1) : Tr Try.prog 74 [.ro (one (.sl 1 (ys.map encI))), .ro (one (dI k))] [one (dI (mkL mkI xs k).2)] := by
  have hlen : ys.length = xs.length := by rw [hys, mkL_len]
  refine tr_go tabOk Try.func74 rfl rfl rfl rfl rfl (ov := [(0, .t ⟨false, [.d (.sl 1 (ys.map encI))]⟩), (1, .t ⟨false, [.d (dI (k))]⟩)]) (hv := []) rfl rfl ?_
  refine v_seq ?_
  refine v_reg ?_
  refine sy _ (zas rfl (ec rfl)) rfl rfl ?_
  refine s_end ?_
  refine v_seq ?_
  refine v_seq ?_
  refine v_reg ?_
  refine sy _ (zas rfl (ec rfl)) rfl rfl ?_
  refine s_end ?_
  refine v_block ?_
  have hB := hx.1
  refine v_lp (fun (i : Nat) => [(0, .t ⟨false, [.d (.sl 1 (ys.map encI))]⟩), (1, .t ⟨false, [.d (dI (kTo mkI xs k i))]⟩), (5, .t ⟨false, [.d (dI (i : Int))]⟩)]) (fun _ => []) (fun i => i ≤ xs.length) (fun i => xs.length - i) 0 (Nat.zero_le _) ⟨rfl, congrArg (fun v => sc (dI v)) kTo_zero.symm, rfl, trivial⟩ trivial rfl (fun i hi => ?_)
  refine v_seq ?_
  refine v_seq ?_
  refine v_reg ?_
  refine sy _ (zmv rfl (e rfl rfl)) rfl rfl ?_
  refine sy _ (zmv rfl (e rfl rfl)) rfl rfl ?_
  refine sy (.t ⟨false, [.d (dI ((ys.map encI).length : Int))]⟩) (zln tabOk rfl rfl (e rfl rfl) .d) rfl rfl ?_
  refine sy (.t ⟨false, [.d (dB (decide (((i : Int)) < (((ys.map encI).length : Int)))))]⟩) (y_bin rfl (e rfl rfl) (e rfl rfl) (fun _ => b_lss) rfl) rfl rfl ?_
  refine s_end ?_
  refine v_cond (e rfl rfl) (fun hb1 => ?_) fun hb1 => ?_
  · have hlt : i < xs.length := by have := hb1; simp at this; omega
    obtain ⟨x, hxi⟩ := some_of_lt hlt
    have hg := mkL_get (f := mkI) (k := k) hxi
    rw [← hys] at hg
    have hge := kTo_ge (i := i) mkI_ok h0 h1
    rw [drop_wt hxi] at hge
    generalize hk0 : kTo mkI xs k i = k0 at hg hge ⊢
    obtain ⟨y, hy⟩ : ∃ y, y = (mkI x k0).1 := ⟨_, rfl⟩
    rw [← hy] at hg
    have hf0 : y = k0 := by rw [hy]; rfl
    refine v_skip ?_
    refine v_seq ?_
    refine v_block ?_
    refine v_seq ?_
    refine v_seq ?_
    refine v_reg ?_
    refine sy _ (zmv rfl (e rfl rfl)) rfl rfl ?_
    refine sy _ (zmv rfl (e rfl rfl)) rfl rfl ?_
    refine sy (.t ⟨false, [.fe 1 (ys.map encI) i 0]⟩) (zix tabOk rfl rfl rfl (e rfl rfl) (e rfl rfl) (ltm_of_some hg)) rfl rfl ?_
    refine sy (.t ⟨false, [.d (dI (y))]⟩) (zle tabOk rfl (e rfl rfl) (getm hg) rfl rfl) rfl rfl ?_
    refine sy _ (zmv rfl (e rfl rfl)) rfl rfl ?_
    refine sy (.t ⟨false, [.d (dB (decide ((y) ≠ (k0))))]⟩) (y_bin rfl (e rfl rfl) (e rfl rfl) (fun _ => b_neq) rfl) rfl rfl ?_
    refine s_end ?_
    refine v_cond (e rfl rfl) (fun hb2 => ?_) fun hb2 => ?_
    · exact absurd hb2 (by simp [hf0])
    refine v_skip ?_
    refine v_reg ?_
    refine sy _ (zmv rfl (e rfl rfl)) rfl rfl ?_
    refine sy (.t ⟨false, [.d (dI (nx k0))]⟩) (y_bin rfl (e rfl rfl) (ec rfl) (fun _ => b_nx) rfl) rfl rfl ?_
    refine sy _ (zas rfl (e rfl rfl)) rfl rfl ?_
    have hg1 := nx_eq (k := k0) (by omega) (by omega)
    generalize hk1 : nx k0 = k1 at hg1 ⊢
    refine s_end ?_
    refine blk_norm ?_
    refine v_reg ?_
    refine sy _ (zmv rfl (e rfl rfl)) rfl rfl ?_
    refine sy (.t ⟨false, [.d (dI ((i : Int) + 1))]⟩) (y_bin rfl (e rfl rfl) (ec rfl) (fun _ => b_addn (by omega) (by omega)) rfl) rfl rfl ?_
    refine sy _ (zas rfl (e rfl rfl)) rfl rfl ?_
    refine s_end ?_
    subst hk1
    subst hk0
    exact lp_next (i + 1) hlt (by omega) ⟨rfl, congrArg (fun v => sc (dI v)) (kTo_succ (f := mkI) hxi).symm, rfl, trivial⟩ trivial rfl
  have hend : i = xs.length := by have := hb1; simp at this; omega
  refine v_exit ?_
  refine then_exit ?_
  refine loop_exit ?_
  refine blk_hit ?_
  refine v_seq ?_
  refine v_reg ?_
  refine sy _ (zmv rfl (e rfl rfl)) rfl rfl ?_
  refine sy _ (zas rfl (e rfl rfl)) rfl rfl ?_
  refine s_end ?_
  refine v_ret ?_
  have e1 : kTo mkI xs k i = (mkL mkI xs k).2 := kTo_end hend
  rw [← e1]
  exact post_ret (rv (.tmp (eg rfl rfl)) rfl (.lf .nil) rfl .nil) (.ro (.ro .nil)) rfl
set_option maxRecDepth 20000 in
theorem tr_heldStringS (xs ys : List ByteArray) (hx : fitL fitS xs) (k : Int) (h0 : 0 ≤ k) (h1 : k + 16 * (wtL wtU xs : Int) < 4611686018427387904) (hys : ys = (mkL mkS xs k).1) : Tr Try.prog 75 [.ro (one (.sl 1 (ys.map encS))), .ro (one (dI k))] [one (dI (mkL mkS xs k).2)] := by
  have hlen : ys.length = xs.length := by rw [hys, mkL_len]
  refine tr_go tabOk Try.func75 rfl rfl rfl rfl rfl (ov := [(0, .t ⟨false, [.d (.sl 1 (ys.map encS))]⟩), (1, .t ⟨false, [.d (dI (k))]⟩)]) (hv := []) rfl rfl ?_
  refine v_seq ?_
  refine v_reg ?_
  refine sy _ (zas rfl (ec rfl)) rfl rfl ?_
  refine s_end ?_
  refine v_seq ?_
  refine v_seq ?_
  refine v_reg ?_
  refine sy _ (zas rfl (ec rfl)) rfl rfl ?_
  refine s_end ?_
  refine v_block ?_
  have hB := hx.1
  refine v_lp (fun (i : Nat) => [(0, .t ⟨false, [.d (.sl 1 (ys.map encS))]⟩), (1, .t ⟨false, [.d (dI (kTo mkS xs k i))]⟩), (5, .t ⟨false, [.d (dI (i : Int))]⟩)]) (fun _ => []) (fun i => i ≤ xs.length) (fun i => xs.length - i) 0 (Nat.zero_le _) ⟨rfl, congrArg (fun v => sc (dI v)) kTo_zero.symm, rfl, trivial⟩ trivial rfl (fun i hi => ?_)
  refine v_seq ?_
  refine v_seq ?_
  refine v_reg ?_
  refine sy _ (zmv rfl (e rfl rfl)) rfl rfl ?_
  refine sy _ (zmv rfl (e rfl rfl)) rfl rfl ?_
  refine sy (.t ⟨false, [.d (dI ((ys.map encS).length : Int))]⟩) (zln tabOk rfl rfl (e rfl rfl) .d) rfl rfl ?_
  refine sy (.t ⟨false, [.d (dB (decide (((i : Int)) < (((ys.map encS).length : Int)))))]⟩) (y_bin rfl (e rfl rfl) (e rfl rfl) (fun _ => b_lss) rfl) rfl rfl ?_
  refine s_end ?_
  refine v_cond (e rfl rfl) (fun hb1 => ?_) fun hb1 => ?_
  · have hlt : i < xs.length := by have := hb1; simp at this; omega
    obtain ⟨x, hxi⟩ := some_of_lt hlt
    have hg := mkL_get (f := mkS) (k := k) hxi
    rw [← hys] at hg
    have hge := kTo_ge (i := i) mkS_ok h0 h1
    rw [drop_wt hxi] at hge
    generalize hk0 : kTo mkS xs k i = k0 at hg hge ⊢
    obtain ⟨y, hy⟩ : ∃ y, y = (mkS x k0).1 := ⟨_, rfl⟩
    rw [← hy] at hg
    have hf0 : y = mt k0 := by rw [hy]; rfl
    refine v_skip ?_
    refine v_seq ?_
    refine v_block ?_
    refine v_seq ?_
    refine v_seq ?_
    refine v_drw [⟨.t ⟨false, [.d (.sl 1 (ys.map encS))]⟩, [], [0], []⟩, ⟨.t ⟨false, [.d (dI (i : Int))]⟩, [], [5], []⟩, ⟨.t ⟨false, [.fe 1 (ys.map encS) i 0]⟩, [], [12, 13], []⟩, ⟨.t ⟨false, [.d (dS (y))]⟩, [], [14], []⟩, ⟨.t ⟨false, [.d (dI (k0))]⟩, [], [1], []⟩, ⟨.t ⟨false, [.d (dS (mt k0))]⟩, [], [16], []⟩, ⟨.t ⟨false, [.d (dB (decide ((y) ≠ (mt k0))))]⟩, [], [15, 17], []⟩] mixed rfl rfl rfl rfl ⟨fun t h A => dy (zmv rfl (A.e rfl rfl rfl)), fun t h A => dy (zmv rfl (A.e rfl rfl rfl)), fun t h A => dy (zix tabOk rfl rfl rfl (A.e rfl rfl rfl) (A.e rfl rfl rfl) (ltm_of_some hg)), fun t h A => dy (zle tabOk rfl (A.e rfl rfl rfl) (getm hg) rfl rfl), fun t h A => dy (zmv rfl (A.e rfl rfl rfl)), fun t h A => zcallA 0 (sc (dS (mt k0))) [] rfl (tr_markText k0 (by omega)) (ar (A.e rfl rfl rfl) (.d .nil) .nil) rfl (free0 rfl) rfl rfl, fun t h A => dy (y_bin rfl (A.e rfl rfl rfl) (A.e rfl rfl rfl) (fun _ => b_sneq) rfl), trivial⟩ ?_
    refine s_end ?_
    refine v_cond (e rfl rfl) (fun hb2 => ?_) fun hb2 => ?_
    · exact absurd hb2 (by simp [hf0])
    refine v_skip ?_
    refine v_reg ?_
    refine sy _ (zmv rfl (e rfl rfl)) rfl rfl ?_
    refine sy (.t ⟨false, [.d (dI (nx k0))]⟩) (y_bin rfl (e rfl rfl) (ec rfl) (fun _ => b_nx) rfl) rfl rfl ?_
    refine sy _ (zas rfl (e rfl rfl)) rfl rfl ?_
    have hg1 := nx_eq (k := k0) (by omega) (by omega)
    generalize hk1 : nx k0 = k1 at hg1 ⊢
    refine s_end ?_
    refine blk_norm ?_
    refine v_reg ?_
    refine sy _ (zmv rfl (e rfl rfl)) rfl rfl ?_
    refine sy (.t ⟨false, [.d (dI ((i : Int) + 1))]⟩) (y_bin rfl (e rfl rfl) (ec rfl) (fun _ => b_addn (by omega) (by omega)) rfl) rfl rfl ?_
    refine sy _ (zas rfl (e rfl rfl)) rfl rfl ?_
    refine s_end ?_
    subst hk1
    subst hk0
    exact lp_next (i + 1) hlt (by omega) ⟨rfl, congrArg (fun v => sc (dI v)) (kTo_succ (f := mkS) hxi).symm, rfl, trivial⟩ trivial rfl
  have hend : i = xs.length := by have := hb1; simp at this; omega
  refine v_exit ?_
  refine then_exit ?_
  refine loop_exit ?_
  refine blk_hit ?_
  refine v_seq ?_
  refine v_reg ?_
  refine sy _ (zmv rfl (e rfl rfl)) rfl rfl ?_
  refine sy _ (zas rfl (e rfl rfl)) rfl rfl ?_
  refine s_end ?_
  refine v_ret ?_
  have e1 : kTo mkS xs k i = (mkL mkS xs k).2 := kTo_end hend
  rw [← e1]
  exact post_ret (rv (.tmp (eg rfl rfl)) rfl (.lf .nil) rfl .nil) (.ro (.ro .nil)) rfl
set_option maxRecDepth 20000 in
theorem tr_heldFrameS (xs ys : List Frame) (hx : fitL Frame.Fit xs) (k : Int) (h0 : 0 ≤ k) (h1 : k + 16 * (wtL Frame.wt xs : Int) < 4611686018427387904) (hys : ys = (mkL mkFrame xs k).1) : Tr Try.prog 35 [.ro (one (.sl 15 (ys.map Frame.cells))), .ro (one (dI k))] [one (dI (mkL mkFrame xs k).2)] := by
  have hlen : ys.length = xs.length := by rw [hys, mkL_len]
  refine tr_go tabOk Try.func35 rfl rfl rfl rfl rfl (ov := [(0, .t ⟨false, [.d (.sl 15 (ys.map Frame.cells))]⟩), (1, .t ⟨false, [.d (dI (k))]⟩)]) (hv := []) rfl rfl ?_
  refine v_seq ?_
  refine v_reg ?_
  refine sy _ (zas rfl (ec rfl)) rfl rfl ?_
  refine s_end ?_
  refine v_seq ?_
  refine v_seq ?_
  refine v_reg ?_
  refine sy _ (zas rfl (ec rfl)) rfl rfl ?_
  refine s_end ?_
  refine v_block ?_
  have hB := hx.1
  refine v_lp (fun (i : Nat) => [(0, .t ⟨false, [.d (.sl 15 (ys.map Frame.cells))]⟩), (1, .t ⟨false, [.d (dI (kTo mkFrame xs k i))]⟩), (5, .t ⟨false, [.d (dI (i : Int))]⟩)]) (fun _ => []) (fun i => i ≤ xs.length) (fun i => xs.length - i) 0 (Nat.zero_le _) ⟨rfl, congrArg (fun v => sc (dI v)) kTo_zero.symm, rfl, trivial⟩ trivial rfl (fun i hi => ?_)
  refine v_seq ?_
  refine v_seq ?_
  refine v_reg ?_
  refine sy _ (zmv rfl (e rfl rfl)) rfl rfl ?_
  refine sy _ (zmv rfl (e rfl rfl)) rfl rfl ?_
  refine sy (.t ⟨false, [.d (dI ((ys.map Frame.cells).length : Int))]⟩) (zln tabOk rfl rfl (e rfl rfl) .d) rfl rfl ?_
  refine sy (.t ⟨false, [.d (dB (decide (((i : Int)) < (((ys.map Frame.cells).length : Int)))))]⟩) (y_bin rfl (e rfl rfl) (e rfl rfl) (fun _ => b_lss) rfl) rfl rfl ?_
  refine s_end ?_
  refine v_cond (e rfl rfl) (fun hb1 => ?_) fun hb1 => ?_
  · have hlt : i < xs.length := by have := hb1; simp at this; omega
    obtain ⟨x, hxi⟩ := some_of_lt hlt
    have hg := mkL_get (f := mkFrame) (k := k) hxi
    rw [← hys] at hg
    have hge := kTo_ge (i := i) mkFrame_ok h0 h1
    rw [drop_wt hxi] at hge
    simp only [Frame.wt, Quest.wt, Exch.wt] at hge
    generalize hk0 : kTo mkFrame xs k i = k0 at hg hge ⊢
    obtain ⟨y, hy⟩ : ∃ y, y = (mkFrame x k0).1 := ⟨_, rfl⟩
    rw [← hy] at hg
    have hf0 : y.Ask.Name = mt k0 := by rw [hy]; rfl
    refine v_skip ?_
    refine v_seq ?_
    refine v_block ?_
    refine v_seq ?_
    refine v_seq ?_
    refine v_drw [⟨.t ⟨false, [.d (.sl 15 (ys.map Frame.cells))]⟩, [], [0], []⟩, ⟨.t ⟨false, [.d (dI (i : Int))]⟩, [], [5], []⟩, ⟨.t ⟨false, [.fe 15 (ys.map Frame.cells) i 0]⟩, [], [12, 13], []⟩, ⟨.t ⟨false, [.fe 15 (ys.map Frame.cells) i 0]⟩, [], [14], []⟩, ⟨.t ⟨false, [.fe 15 (ys.map Frame.cells) i 0]⟩, [], [15], []⟩, ⟨.t ⟨false, [.d (dS (y.Ask.Name))]⟩, [], [16], []⟩, ⟨.t ⟨false, [.d (dI (k0))]⟩, [], [1], []⟩, ⟨.t ⟨false, [.d (dS (mt k0))]⟩, [], [18], []⟩, ⟨.t ⟨false, [.d (dB (decide ((y.Ask.Name) ≠ (mt k0))))]⟩, [], [17, 19], []⟩] mixed rfl rfl rfl rfl ⟨fun t h A => dy (zmv rfl (A.e rfl rfl rfl)), fun t h A => dy (zmv rfl (A.e rfl rfl rfl)), fun t h A => dy (zix tabOk rfl rfl rfl (A.e rfl rfl rfl) (A.e rfl rfl rfl) (ltm_of_some hg)), fun t h A => dy (zfa tabOk rfl rfl rfl (A.e rfl rfl rfl) rfl rfl), fun t h A => dy (zfa tabOk rfl rfl rfl (A.e rfl rfl rfl) rfl rfl), fun t h A => dy (zle tabOk rfl (A.e rfl rfl rfl) (getm hg) rfl rfl), fun t h A => dy (zmv rfl (A.e rfl rfl rfl)), fun t h A => zcallA 0 (sc (dS (mt k0))) [] rfl (tr_markText k0 (by omega)) (ar (A.e rfl rfl rfl) (.d .nil) .nil) rfl (free0 rfl) rfl rfl, fun t h A => dy (y_bin rfl (A.e rfl rfl rfl) (A.e rfl rfl rfl) (fun _ => b_sneq) rfl), trivial⟩ ?_
    refine s_end ?_
    refine v_cond (e rfl rfl) (fun hb2 => ?_) fun hb2 => ?_
    · exact absurd hb2 (by simp [hf0])
    refine v_skip ?_
    refine v_seq ?_
    refine v_reg ?_
    refine sy _ (zmv rfl (e rfl rfl)) rfl rfl ?_
    refine sy (.t ⟨false, [.d (dI (nx k0))]⟩) (y_bin rfl (e rfl rfl) (ec rfl) (fun _ => b_nx) rfl) rfl rfl ?_
    refine sy _ (zas rfl (e rfl rfl)) rfl rfl ?_
    have hg1 := nx_eq (k := k0) (by omega) (by omega)
    generalize hk1 : nx k0 = k1 at hg1 ⊢
    have hf1 : y.Ask.Typ = k1 := by rw [hy]; subst hk1; rfl
    refine s_end ?_
    refine v_seq ?_
    refine v_seq ?_
    refine v_reg ?_
    refine sy _ (zmv rfl (e rfl rfl)) rfl rfl ?_
    refine sy _ (zmv rfl (e rfl rfl)) rfl rfl ?_
    refine sy (.t ⟨false, [.fe 15 (ys.map Frame.cells) i 0]⟩) (zix tabOk rfl rfl rfl (e rfl rfl) (e rfl rfl) (ltm_of_some hg)) rfl rfl ?_
    refine sy (.t ⟨false, [.fe 15 (ys.map Frame.cells) i 0]⟩) (zfa tabOk rfl rfl rfl (e rfl rfl) rfl rfl) rfl rfl ?_
    refine sy (.t ⟨false, [.fe 15 (ys.map Frame.cells) i 1]⟩) (zfa tabOk rfl rfl rfl (e rfl rfl) rfl rfl) rfl rfl ?_
    refine sy (.t ⟨false, [.d (dI (y.Ask.Typ))]⟩) (zle tabOk rfl (e rfl rfl) (getm hg) rfl rfl) rfl rfl ?_
    refine sy _ (zmv rfl (e rfl rfl)) rfl rfl ?_
    refine sy (.t ⟨false, [.d (dB (decide ((y.Ask.Typ) ≠ (k1))))]⟩) (y_bin rfl (e rfl rfl) (e rfl rfl) (fun _ => b_neq) rfl) rfl rfl ?_
    refine s_end ?_
    refine v_cond (e rfl rfl) (fun hb3 => ?_) fun hb3 => ?_
    · exact absurd hb3 (by simp [hf1])
    refine v_skip ?_
    refine v_seq ?_
    refine v_reg ?_
    refine sy _ (zmv rfl (e rfl rfl)) rfl rfl ?_
    refine sy (.t ⟨false, [.d (dI (nx k1))]⟩) (y_bin rfl (e rfl rfl) (ec rfl) (fun _ => b_nx) rfl) rfl rfl ?_
    refine sy _ (zas rfl (e rfl rfl)) rfl rfl ?_
    have hg2 := nx_eq (k := k1) (by omega) (by omega)
    generalize hk2 : nx k1 = k2 at hg2 ⊢
    have hf2 : y.Q.Name = mt k2 := by rw [hy]; subst hk1 hk2; rfl
    refine s_end ?_
    refine v_seq ?_
    refine v_seq ?_
    refine v_drw [⟨.t ⟨false, [.d (.sl 15 (ys.map Frame.cells))]⟩, [], [0], []⟩, ⟨.t ⟨false, [.d (dI (i : Int))]⟩, [], [5], []⟩, ⟨.t ⟨false, [.fe 15 (ys.map Frame.cells) i 0]⟩, [], [33, 34], []⟩, ⟨.t ⟨false, [.fe 15 (ys.map Frame.cells) i 2]⟩, [], [35], []⟩, ⟨.t ⟨false, [.fe 15 (ys.map Frame.cells) i 2]⟩, [], [36], []⟩, ⟨.t ⟨false, [.d (dS (y.Q.Name))]⟩, [], [37], []⟩, ⟨.t ⟨false, [.d (dI (k2))]⟩, [], [1], []⟩, ⟨.t ⟨false, [.d (dS (mt k2))]⟩, [], [39], []⟩, ⟨.t ⟨false, [.d (dB (decide ((y.Q.Name) ≠ (mt k2))))]⟩, [], [38, 40], []⟩] mixed rfl rfl rfl rfl ⟨fun t h A => dy (zmv rfl (A.e rfl rfl rfl)), fun t h A => dy (zmv rfl (A.e rfl rfl rfl)), fun t h A => dy (zix tabOk rfl rfl rfl (A.e rfl rfl rfl) (A.e rfl rfl rfl) (ltm_of_some hg)), fun t h A => dy (zfa tabOk rfl rfl rfl (A.e rfl rfl rfl) rfl rfl), fun t h A => dy (zfa tabOk rfl rfl rfl (A.e rfl rfl rfl) rfl rfl), fun t h A => dy (zle tabOk rfl (A.e rfl rfl rfl) (getm hg) rfl rfl), fun t h A => dy (zmv rfl (A.e rfl rfl rfl)), fun t h A => zcallA 0 (sc (dS (mt k2))) [] rfl (tr_markText k2 (by omega)) (ar (A.e rfl rfl rfl) (.d .nil) .nil) rfl (free0 rfl) rfl rfl, fun t h A => dy (y_bin rfl (A.e rfl rfl rfl) (A.e rfl rfl rfl) (fun _ => b_sneq) rfl), trivial⟩ ?_
    refine s_end ?_
    refine v_cond (e rfl rfl) (fun hb4 => ?_) fun hb4 => ?_
    · exact absurd hb4 (by simp [hf2])
    refine v_skip ?_
    refine v_seq ?_
    refine v_reg ?_
    refine sy _ (zmv rfl (e rfl rfl)) rfl rfl ?_
    refine sy (.t ⟨false, [.d (dI (nx k2))]⟩) (y_bin rfl (e rfl rfl) (ec rfl) (fun _ => b_nx) rfl) rfl rfl ?_
    refine sy _ (zas rfl (e rfl rfl)) rfl rfl ?_
    have hg3 := nx_eq (k := k2) (by omega) (by omega)
    generalize hk3 : nx k2 = k3 at hg3 ⊢
    have hf3 : y.Q.Typ = k3 := by rw [hy]; subst hk1 hk2 hk3; rfl
    refine s_end ?_
    refine v_seq ?_
    refine v_seq ?_
    refine v_reg ?_
    refine sy _ (zmv rfl (e rfl rfl)) rfl rfl ?_
    refine sy _ (zmv rfl (e rfl rfl)) rfl rfl ?_
    refine sy (.t ⟨false, [.fe 15 (ys.map Frame.cells) i 0]⟩) (zix tabOk rfl rfl rfl (e rfl rfl) (e rfl rfl) (ltm_of_some hg)) rfl rfl ?_
    refine sy (.t ⟨false, [.fe 15 (ys.map Frame.cells) i 2]⟩) (zfa tabOk rfl rfl rfl (e rfl rfl) rfl rfl) rfl rfl ?_
    refine sy (.t ⟨false, [.fe 15 (ys.map Frame.cells) i 3]⟩) (zfa tabOk rfl rfl rfl (e rfl rfl) rfl rfl) rfl rfl ?_
    refine sy (.t ⟨false, [.d (dI (y.Q.Typ))]⟩) (zle tabOk rfl (e rfl rfl) (getm hg) rfl rfl) rfl rfl ?_
    refine sy _ (zmv rfl (e rfl rfl)) rfl rfl ?_
    refine sy (.t ⟨false, [.d (dB (decide ((y.Q.Typ) ≠ (k3))))]⟩) (y_bin rfl (e rfl rfl) (e rfl rfl) (fun _ => b_neq) rfl) rfl rfl ?_
    refine s_end ?_
    refine v_cond (e rfl rfl) (fun hb5 => ?_) fun hb5 => ?_
    · exact absurd hb5 (by simp [hf3])
    refine v_skip ?_
    refine v_seq ?_
    refine v_reg ?_
    refine sy _ (zmv rfl (e rfl rfl)) rfl rfl ?_
    refine sy (.t ⟨false, [.d (dI (nx k3))]⟩) (y_bin rfl (e rfl rfl) (ec rfl) (fun _ => b_nx) rfl) rfl rfl ?_
    refine sy _ (zas rfl (e rfl rfl)) rfl rfl ?_
    have hg4 := nx_eq (k := k3) (by omega) (by omega)
    generalize hk4 : nx k3 = k4 at hg4 ⊢
    have hf4 : y.Links = (mkL mkRecord x.Links k4).1 := by rw [hy]; subst hk1 hk2 hk3 hk4; rfl
    refine s_end ?_
    refine v_seq ?_
    refine v_reg ?_
    refine sy _ (zmv rfl (e rfl rfl)) rfl rfl ?_
    refine sy _ (zmv rfl (e rfl rfl)) rfl rfl ?_
    refine sy (.t ⟨false, [.fe 15 (ys.map Frame.cells) i 0]⟩) (zix tabOk rfl rfl rfl (e rfl rfl) (e rfl rfl) (ltm_of_some hg)) rfl rfl ?_
    refine sy (.t ⟨false, [.fe 15 (ys.map Frame.cells) i 4]⟩) (zfa tabOk rfl rfl rfl (e rfl rfl) rfl rfl) rfl rfl ?_
    refine sy (.t ⟨false, [.d (.sl 6 (y.Links.map Record.cells))]⟩) (zle tabOk rfl (e rfl rfl) (getm hg) rfl rfl) rfl rfl ?_
    refine sy _ (zmv rfl (e rfl rfl)) rfl rfl ?_
    refine sd (.t ⟨false, [.d (dI ((mkL mkRecord x.Links k4).2))]⟩) (zcall 0 (sc (dI (mkL mkRecord x.Links k4).2)) [] rfl (tr_heldRecordS x.Links y.Links ((hx.2 _ (List.mem_of_getElem? hxi)).Links) k4 (by omega) (by omega) hf4) (ar (e rfl rfl) (.d .nil) (ar (e rfl rfl) (.d .nil) .nil)) rfl rfl rfl) rfl rfl rfl rfl ?_
    refine sy _ (zas rfl (e rfl rfl)) rfl rfl ?_
    have hg5 := mkL_ge mkRecord_ok (xs := x.Links) (k := k4) (by omega) (by omega)
    generalize hk5 : (mkL mkRecord x.Links k4).2 = k5 at hg5 ⊢
    have hf5 : y.Apex = mt k5 := by rw [hy]; subst hk1 hk2 hk3 hk4 hk5; rfl
    refine s_end ?_
    refine v_seq ?_
    refine v_seq ?_
    refine v_reg ?_
    refine sy _ (zmv rfl (e rfl rfl)) rfl rfl ?_
    refine sy (.t ⟨false, [.d (dB (decide ((k5) < (0))))]⟩) (y_bin rfl (e rfl rfl) (ec rfl) (fun _ => b_lss) rfl) rfl rfl ?_
    refine s_end ?_
    refine v_cond (e rfl rfl) (fun hb6 => ?_) fun hb6 => ?_
    · exact absurd hb6 (by simp; omega)
    refine v_skip ?_
    refine v_seq ?_
    refine v_seq ?_
    refine v_drw [⟨.t ⟨false, [.d (.sl 15 (ys.map Frame.cells))]⟩, [], [0], []⟩, ⟨.t ⟨false, [.d (dI (i : Int))]⟩, [], [5], []⟩, ⟨.t ⟨false, [.fe 15 (ys.map Frame.cells) i 0]⟩, [], [63, 64], []⟩, ⟨.t ⟨false, [.fe 15 (ys.map Frame.cells) i 5]⟩, [], [65], []⟩, ⟨.t ⟨false, [.d (dS (y.Apex))]⟩, [], [66], []⟩, ⟨.t ⟨false, [.d (dI (k5))]⟩, [], [1], []⟩, ⟨.t ⟨false, [.d (dS (mt k5))]⟩, [], [68], []⟩, ⟨.t ⟨false, [.d (dB (decide ((y.Apex) ≠ (mt k5))))]⟩, [], [67, 69], []⟩] mixed rfl rfl rfl rfl ⟨fun t h A => dy (zmv rfl (A.e rfl rfl rfl)), fun t h A => dy (zmv rfl (A.e rfl rfl rfl)), fun t h A => dy (zix tabOk rfl rfl rfl (A.e rfl rfl rfl) (A.e rfl rfl rfl) (ltm_of_some hg)), fun t h A => dy (zfa tabOk rfl rfl rfl (A.e rfl rfl rfl) rfl rfl), fun t h A => dy (zle tabOk rfl (A.e rfl rfl rfl) (getm hg) rfl rfl), fun t h A => dy (zmv rfl (A.e rfl rfl rfl)), fun t h A => zcallA 0 (sc (dS (mt k5))) [] rfl (tr_markText k5 (by omega)) (ar (A.e rfl rfl rfl) (.d .nil) .nil) rfl (free0 rfl) rfl rfl, fun t h A => dy (y_bin rfl (A.e rfl rfl rfl) (A.e rfl rfl rfl) (fun _ => b_sneq) rfl), trivial⟩ ?_
    refine s_end ?_
    refine v_cond (e rfl rfl) (fun hb7 => ?_) fun hb7 => ?_
    · exact absurd hb7 (by simp [hf5])
    refine v_skip ?_
    refine v_seq ?_
    refine v_reg ?_
    refine sy _ (zmv rfl (e rfl rfl)) rfl rfl ?_
    refine sy (.t ⟨false, [.d (dI (nx k5))]⟩) (y_bin rfl (e rfl rfl) (ec rfl) (fun _ => b_nx) rfl) rfl rfl ?_
    refine sy _ (zas rfl (e rfl rfl)) rfl rfl ?_
    have hg6 := nx_eq (k := k5) (by omega) (by omega)
    generalize hk6 : nx k5 = k6 at hg6 ⊢
    have hf6 : y.Servers = (mkL mkI x.Servers k6).1 := by rw [hy]; subst hk1 hk2 hk3 hk4 hk5 hk6; rfl
    refine s_end ?_
    refine v_seq ?_
    refine v_reg ?_
    refine sy _ (zmv rfl (e rfl rfl)) rfl rfl ?_
    refine sy _ (zmv rfl (e rfl rfl)) rfl rfl ?_
    refine sy (.t ⟨false, [.fe 15 (ys.map Frame.cells) i 0]⟩) (zix tabOk rfl rfl rfl (e rfl rfl) (e rfl rfl) (ltm_of_some hg)) rfl rfl ?_
    refine sy (.t ⟨false, [.fe 15 (ys.map Frame.cells) i 6]⟩) (zfa tabOk rfl rfl rfl (e rfl rfl) rfl rfl) rfl rfl ?_
    refine sy (.t ⟨false, [.d (.sl 1 (y.Servers.map encI))]⟩) (zle tabOk rfl (e rfl rfl) (getm hg) rfl rfl) rfl rfl ?_
    refine sy _ (zmv rfl (e rfl rfl)) rfl rfl ?_
    refine sd (.t ⟨false, [.d (dI ((mkL mkI x.Servers k6).2))]⟩) (zcall 0 (sc (dI (mkL mkI x.Servers k6).2)) [] rfl (tr_heldIntS x.Servers y.Servers ((hx.2 _ (List.mem_of_getElem? hxi)).Servers) k6 (by omega) (by omega) hf6) (ar (e rfl rfl) (.d .nil) (ar (e rfl rfl) (.d .nil) .nil)) rfl rfl rfl) rfl rfl rfl rfl ?_
    refine sy _ (zas rfl (e rfl rfl)) rfl rfl ?_
    have hg7 := mkL_ge mkI_ok (xs := x.Servers) (k := k6) (by omega) (by omega)
    generalize hk7 : (mkL mkI x.Servers k6).2 = k7 at hg7 ⊢
    have hf7 : y.Need = (mkL mkS x.Need k7).1 := by rw [hy]; subst hk1 hk2 hk3 hk4 hk5 hk6 hk7; rfl
    refine s_end ?_
    refine v_seq ?_
    refine v_seq ?_
    refine v_reg ?_
    refine sy _ (zmv rfl (e rfl rfl)) rfl rfl ?_
    refine sy (.t ⟨false, [.d (dB (decide ((k7) < (0))))]⟩) (y_bin rfl (e rfl rfl) (ec rfl) (fun _ => b_lss) rfl) rfl rfl ?_
    refine s_end ?_
    refine v_cond (e rfl rfl) (fun hb8 => ?_) fun hb8 => ?_
    · exact absurd hb8 (by simp; omega)
    refine v_skip ?_
    refine v_seq ?_
    refine v_reg ?_
    refine sy _ (zmv rfl (e rfl rfl)) rfl rfl ?_
    refine sy _ (zmv rfl (e rfl rfl)) rfl rfl ?_
    refine sy (.t ⟨false, [.fe 15 (ys.map Frame.cells) i 0]⟩) (zix tabOk rfl rfl rfl (e rfl rfl) (e rfl rfl) (ltm_of_some hg)) rfl rfl ?_
    refine sy (.t ⟨false, [.fe 15 (ys.map Frame.cells) i 7]⟩) (zfa tabOk rfl rfl rfl (e rfl rfl) rfl rfl) rfl rfl ?_
    refine sy (.t ⟨false, [.d (.sl 1 (y.Need.map encS))]⟩) (zle tabOk rfl (e rfl rfl) (getm hg) rfl rfl) rfl rfl ?_
    refine sy _ (zmv rfl (e rfl rfl)) rfl rfl ?_
    refine sd (.t ⟨false, [.d (dI ((mkL mkS x.Need k7).2))]⟩) (zcall 0 (sc (dI (mkL mkS x.Need k7).2)) [] rfl (tr_heldStringS x.Need y.Need ((hx.2 _ (List.mem_of_getElem? hxi)).Need) k7 (by omega) (by omega) hf7) (ar (e rfl rfl) (.d .nil) (ar (e rfl rfl) (.d .nil) .nil)) rfl rfl rfl) rfl rfl rfl rfl ?_
    refine sy _ (zas rfl (e rfl rfl)) rfl rfl ?_
    have hg8 := mkL_ge mkS_ok (xs := x.Need) (k := k7) (by omega) (by omega)
    generalize hk8 : (mkL mkS x.Need k7).2 = k8 at hg8 ⊢
    have hf8 : y.Down = k8 := by rw [hy]; subst hk1 hk2 hk3 hk4 hk5 hk6 hk7 hk8; rfl
    refine s_end ?_
    refine v_seq ?_
    refine v_seq ?_
    refine v_reg ?_
    refine sy _ (zmv rfl (e rfl rfl)) rfl rfl ?_
    refine sy (.t ⟨false, [.d (dB (decide ((k8) < (0))))]⟩) (y_bin rfl (e rfl rfl) (ec rfl) (fun _ => b_lss) rfl) rfl rfl ?_
    refine s_end ?_
    refine v_cond (e rfl rfl) (fun hb9 => ?_) fun hb9 => ?_
    · exact absurd hb9 (by simp; omega)
    refine v_skip ?_
    refine v_seq ?_
    refine v_seq ?_
    refine v_reg ?_
    refine sy _ (zmv rfl (e rfl rfl)) rfl rfl ?_
    refine sy _ (zmv rfl (e rfl rfl)) rfl rfl ?_
    refine sy (.t ⟨false, [.fe 15 (ys.map Frame.cells) i 0]⟩) (zix tabOk rfl rfl rfl (e rfl rfl) (e rfl rfl) (ltm_of_some hg)) rfl rfl ?_
    refine sy (.t ⟨false, [.fe 15 (ys.map Frame.cells) i 8]⟩) (zfa tabOk rfl rfl rfl (e rfl rfl) rfl rfl) rfl rfl ?_
    refine sy (.t ⟨false, [.d (dI (y.Down))]⟩) (zle tabOk rfl (e rfl rfl) (getm hg) rfl rfl) rfl rfl ?_
    refine sy _ (zmv rfl (e rfl rfl)) rfl rfl ?_
    refine sy (.t ⟨false, [.d (dB (decide ((y.Down) ≠ (k8))))]⟩) (y_bin rfl (e rfl rfl) (e rfl rfl) (fun _ => b_neq) rfl) rfl rfl ?_
    refine s_end ?_
    refine v_cond (e rfl rfl) (fun hb10 => ?_) fun hb10 => ?_
    · exact absurd hb10 (by simp [hf8])
    refine v_skip ?_
    refine v_seq ?_
    refine v_reg ?_
    refine sy _ (zmv rfl (e rfl rfl)) rfl rfl ?_
    refine sy (.t ⟨false, [.d (dI (nx k8))]⟩) (y_bin rfl (e rfl rfl) (ec rfl) (fun _ => b_nx) rfl) rfl rfl ?_
    refine sy _ (zas rfl (e rfl rfl)) rfl rfl ?_
    have hg9 := nx_eq (k := k8) (by omega) (by omega)
    generalize hk9 : nx k8 = k9 at hg9 ⊢
    have hf9 : y.Left = k9 := by rw [hy]; subst hk1 hk2 hk3 hk4 hk5 hk6 hk7 hk8 hk9; rfl
    refine s_end ?_
    refine v_seq ?_
    refine v_seq ?_
    refine v_reg ?_
    refine sy _ (zmv rfl (e rfl rfl)) rfl rfl ?_
    refine sy _ (zmv rfl (e rfl rfl)) rfl rfl ?_
    refine sy (.t ⟨false, [.fe 15 (ys.map Frame.cells) i 0]⟩) (zix tabOk rfl rfl rfl (e rfl rfl) (e rfl rfl) (ltm_of_some hg)) rfl rfl ?_
    refine sy (.t ⟨false, [.fe 15 (ys.map Frame.cells) i 9]⟩) (zfa tabOk rfl rfl rfl (e rfl rfl) rfl rfl) rfl rfl ?_
    refine sy (.t ⟨false, [.d (dI (y.Left))]⟩) (zle tabOk rfl (e rfl rfl) (getm hg) rfl rfl) rfl rfl ?_
    refine sy _ (zmv rfl (e rfl rfl)) rfl rfl ?_
    refine sy (.t ⟨false, [.d (dB (decide ((y.Left) ≠ (k9))))]⟩) (y_bin rfl (e rfl rfl) (e rfl rfl) (fun _ => b_neq) rfl) rfl rfl ?_
    refine s_end ?_
    refine v_cond (e rfl rfl) (fun hb11 => ?_) fun hb11 => ?_
    · exact absurd hb11 (by simp [hf9])
    refine v_skip ?_
    refine v_seq ?_
    refine v_reg ?_
    refine sy _ (zmv rfl (e rfl rfl)) rfl rfl ?_
    refine sy (.t ⟨false, [.d (dI (nx k9))]⟩) (y_bin rfl (e rfl rfl) (ec rfl) (fun _ => b_nx) rfl) rfl rfl ?_
    refine sy _ (zas rfl (e rfl rfl)) rfl rfl ?_
    have hg10 := nx_eq (k := k9) (by omega) (by omega)
    generalize hk10 : nx k9 = k10 at hg10 ⊢
    have hf10 : y.Pc = k10 := by rw [hy]; subst hk1 hk2 hk3 hk4 hk5 hk6 hk7 hk8 hk9 hk10; rfl
    refine s_end ?_
    refine v_seq ?_
    refine v_seq ?_
    refine v_reg ?_
    refine sy _ (zmv rfl (e rfl rfl)) rfl rfl ?_
    refine sy _ (zmv rfl (e rfl rfl)) rfl rfl ?_
    refine sy (.t ⟨false, [.fe 15 (ys.map Frame.cells) i 0]⟩) (zix tabOk rfl rfl rfl (e rfl rfl) (e rfl rfl) (ltm_of_some hg)) rfl rfl ?_
    refine sy (.t ⟨false, [.fe 15 (ys.map Frame.cells) i 10]⟩) (zfa tabOk rfl rfl rfl (e rfl rfl) rfl rfl) rfl rfl ?_
    refine sy (.t ⟨false, [.d (dI (y.Pc))]⟩) (zle tabOk rfl (e rfl rfl) (getm hg) rfl rfl) rfl rfl ?_
    refine sy _ (zmv rfl (e rfl rfl)) rfl rfl ?_
    refine sy (.t ⟨false, [.d (dB (decide ((y.Pc) ≠ (k10))))]⟩) (y_bin rfl (e rfl rfl) (e rfl rfl) (fun _ => b_neq) rfl) rfl rfl ?_
    refine s_end ?_
    refine v_cond (e rfl rfl) (fun hb12 => ?_) fun hb12 => ?_
    · exact absurd hb12 (by simp [hf10])
    refine v_skip ?_
    refine v_seq ?_
    refine v_reg ?_
    refine sy _ (zmv rfl (e rfl rfl)) rfl rfl ?_
    refine sy (.t ⟨false, [.d (dI (nx k10))]⟩) (y_bin rfl (e rfl rfl) (ec rfl) (fun _ => b_nx) rfl) rfl rfl ?_
    refine sy _ (zas rfl (e rfl rfl)) rfl rfl ?_
    have hg11 := nx_eq (k := k10) (by omega) (by omega)
    generalize hk11 : nx k10 = k11 at hg11 ⊢
    have hf11 : y.X.Id = k11 := by rw [hy]; subst hk1 hk2 hk3 hk4 hk5 hk6 hk7 hk8 hk9 hk10 hk11; rfl
    refine s_end ?_
    refine v_seq ?_
    refine v_seq ?_
    refine v_reg ?_
    refine sy _ (zmv rfl (e rfl rfl)) rfl rfl ?_
    refine sy _ (zmv rfl (e rfl rfl)) rfl rfl ?_
    refine sy (.t ⟨false, [.fe 15 (ys.map Frame.cells) i 0]⟩) (zix tabOk rfl rfl rfl (e rfl rfl) (e rfl rfl) (ltm_of_some hg)) rfl rfl ?_
    refine sy (.t ⟨false, [.fe 15 (ys.map Frame.cells) i 11]⟩) (zfa tabOk rfl rfl rfl (e rfl rfl) rfl rfl) rfl rfl ?_
    refine sy (.t ⟨false, [.fe 15 (ys.map Frame.cells) i 11]⟩) (zfa tabOk rfl rfl rfl (e rfl rfl) rfl rfl) rfl rfl ?_
    refine sy (.t ⟨false, [.d (dI (y.X.Id))]⟩) (zle tabOk rfl (e rfl rfl) (getm hg) rfl rfl) rfl rfl ?_
    refine sy _ (zmv rfl (e rfl rfl)) rfl rfl ?_
    refine sy (.t ⟨false, [.d (dB (decide ((y.X.Id) ≠ (k11))))]⟩) (y_bin rfl (e rfl rfl) (e rfl rfl) (fun _ => b_neq) rfl) rfl rfl ?_
    refine s_end ?_
    refine v_cond (e rfl rfl) (fun hb13 => ?_) fun hb13 => ?_
    · exact absurd hb13 (by simp [hf11])
    refine v_skip ?_
    refine v_seq ?_
    refine v_reg ?_
    refine sy _ (zmv rfl (e rfl rfl)) rfl rfl ?_
    refine sy (.t ⟨false, [.d (dI (nx k11))]⟩) (y_bin rfl (e rfl rfl) (ec rfl) (fun _ => b_nx) rfl) rfl rfl ?_
    refine sy _ (zas rfl (e rfl rfl)) rfl rfl ?_
    have hg12 := nx_eq (k := k11) (by omega) (by omega)
    generalize hk12 : nx k11 = k12 at hg12 ⊢
    have hf12 : y.X.Addr = k12 := by rw [hy]; subst hk1 hk2 hk3 hk4 hk5 hk6 hk7 hk8 hk9 hk10 hk11 hk12; rfl
    refine s_end ?_
    refine v_seq ?_
    refine v_seq ?_
    refine v_reg ?_
    refine sy _ (zmv rfl (e rfl rfl)) rfl rfl ?_
    refine sy _ (zmv rfl (e rfl rfl)) rfl rfl ?_
    refine sy (.t ⟨false, [.fe 15 (ys.map Frame.cells) i 0]⟩) (zix tabOk rfl rfl rfl (e rfl rfl) (e rfl rfl) (ltm_of_some hg)) rfl rfl ?_
    refine sy (.t ⟨false, [.fe 15 (ys.map Frame.cells) i 11]⟩) (zfa tabOk rfl rfl rfl (e rfl rfl) rfl rfl) rfl rfl ?_
    refine sy (.t ⟨false, [.fe 15 (ys.map Frame.cells) i 12]⟩) (zfa tabOk rfl rfl rfl (e rfl rfl) rfl rfl) rfl rfl ?_
    refine sy (.t ⟨false, [.d (dI (y.X.Addr))]⟩) (zle tabOk rfl (e rfl rfl) (getm hg) rfl rfl) rfl rfl ?_
    refine sy _ (zmv rfl (e rfl rfl)) rfl rfl ?_
    refine sy (.t ⟨false, [.d (dB (decide ((y.X.Addr) ≠ (k12))))]⟩) (y_bin rfl (e rfl rfl) (e rfl rfl) (fun _ => b_neq) rfl) rfl rfl ?_
    refine s_end ?_
    refine v_cond (e rfl rfl) (fun hb14 => ?_) fun hb14 => ?_
    · exact absurd hb14 (by simp [hf12])
    refine v_skip ?_
    refine v_seq ?_
    refine v_reg ?_
    refine sy _ (zmv rfl (e rfl rfl)) rfl rfl ?_
    refine sy (.t ⟨false, [.d (dI (nx k12))]⟩) (y_bin rfl (e rfl rfl) (ec rfl) (fun _ => b_nx) rfl) rfl rfl ?_
    refine sy _ (zas rfl (e rfl rfl)) rfl rfl ?_
    have hg13 := nx_eq (k := k12) (by omega) (by omega)
    generalize hk13 : nx k12 = k13 at hg13 ⊢
    have hf13 : y.X.Try = k13 := by rw [hy]; subst hk1 hk2 hk3 hk4 hk5 hk6 hk7 hk8 hk9 hk10 hk11 hk12 hk13; rfl
    refine s_end ?_
    refine v_seq ?_
    refine v_seq ?_
    refine v_reg ?_
    refine sy _ (zmv rfl (e rfl rfl)) rfl rfl ?_
    refine sy _ (zmv rfl (e rfl rfl)) rfl rfl ?_
    refine sy (.t ⟨false, [.fe 15 (ys.map Frame.cells) i 0]⟩) (zix tabOk rfl rfl rfl (e rfl rfl) (e rfl rfl) (ltm_of_some hg)) rfl rfl ?_
    refine sy (.t ⟨false, [.fe 15 (ys.map Frame.cells) i 11]⟩) (zfa tabOk rfl rfl rfl (e rfl rfl) rfl rfl) rfl rfl ?_
    refine sy (.t ⟨false, [.fe 15 (ys.map Frame.cells) i 13]⟩) (zfa tabOk rfl rfl rfl (e rfl rfl) rfl rfl) rfl rfl ?_
    refine sy (.t ⟨false, [.d (dI (y.X.Try))]⟩) (zle tabOk rfl (e rfl rfl) (getm hg) rfl rfl) rfl rfl ?_
    refine sy _ (zmv rfl (e rfl rfl)) rfl rfl ?_
    refine sy (.t ⟨false, [.d (dB (decide ((y.X.Try) ≠ (k13))))]⟩) (y_bin rfl (e rfl rfl) (e rfl rfl) (fun _ => b_neq) rfl) rfl rfl ?_
    refine s_end ?_
    refine v_cond (e rfl rfl) (fun hb15 => ?_) fun hb15 => ?_
    · exact absurd hb15 (by simp [hf13])
    refine v_skip ?_
    refine v_seq ?_
    refine v_reg ?_
    refine sy _ (zmv rfl (e rfl rfl)) rfl rfl ?_
    refine sy (.t ⟨false, [.d (dI (nx k13))]⟩) (y_bin rfl (e rfl rfl) (ec rfl) (fun _ => b_nx) rfl) rfl rfl ?_
    refine sy _ (zas rfl (e rfl rfl)) rfl rfl ?_
    have hg14 := nx_eq (k := k13) (by omega) (by omega)
    generalize hk14 : nx k13 = k14 at hg14 ⊢
    have hf14 : y.X.Due = k14 := by rw [hy]; subst hk1 hk2 hk3 hk4 hk5 hk6 hk7 hk8 hk9 hk10 hk11 hk12 hk13 hk14; rfl
    refine s_end ?_
    refine v_seq ?_
    refine v_seq ?_
    refine v_reg ?_
    refine sy _ (zmv rfl (e rfl rfl)) rfl rfl ?_
    refine sy _ (zmv rfl (e rfl rfl)) rfl rfl ?_
    refine sy (.t ⟨false, [.fe 15 (ys.map Frame.cells) i 0]⟩) (zix tabOk rfl rfl rfl (e rfl rfl) (e rfl rfl) (ltm_of_some hg)) rfl rfl ?_
    refine sy (.t ⟨false, [.fe 15 (ys.map Frame.cells) i 11]⟩) (zfa tabOk rfl rfl rfl (e rfl rfl) rfl rfl) rfl rfl ?_
    refine sy (.t ⟨false, [.fe 15 (ys.map Frame.cells) i 14]⟩) (zfa tabOk rfl rfl rfl (e rfl rfl) rfl rfl) rfl rfl ?_
    refine sy (.t ⟨false, [.d (dI (y.X.Due))]⟩) (zle tabOk rfl (e rfl rfl) (getm hg) rfl rfl) rfl rfl ?_
    refine sy _ (zmv rfl (e rfl rfl)) rfl rfl ?_
    refine sy (.t ⟨false, [.d (dB (decide ((y.X.Due) ≠ (k14))))]⟩) (y_bin rfl (e rfl rfl) (e rfl rfl) (fun _ => b_neq) rfl) rfl rfl ?_
    refine s_end ?_
    refine v_cond (e rfl rfl) (fun hb16 => ?_) fun hb16 => ?_
    · exact absurd hb16 (by simp [hf14])
    refine v_skip ?_
    refine v_reg ?_
    refine sy _ (zmv rfl (e rfl rfl)) rfl rfl ?_
    refine sy (.t ⟨false, [.d (dI (nx k14))]⟩) (y_bin rfl (e rfl rfl) (ec rfl) (fun _ => b_nx) rfl) rfl rfl ?_
    refine sy _ (zas rfl (e rfl rfl)) rfl rfl ?_
    have hg15 := nx_eq (k := k14) (by omega) (by omega)
    generalize hk15 : nx k14 = k15 at hg15 ⊢
    refine s_end ?_
    refine blk_norm ?_
    refine v_reg ?_
    refine sy _ (zmv rfl (e rfl rfl)) rfl rfl ?_
    refine sy (.t ⟨false, [.d (dI ((i : Int) + 1))]⟩) (y_bin rfl (e rfl rfl) (ec rfl) (fun _ => b_addn (by omega) (by omega)) rfl) rfl rfl ?_
    refine sy _ (zas rfl (e rfl rfl)) rfl rfl ?_
    refine s_end ?_
    subst hk1 hk2 hk3 hk4 hk5 hk6 hk7 hk8 hk9 hk10 hk11 hk12 hk13 hk14 hk15
    subst hk0
    exact lp_next (i + 1) hlt (by omega) ⟨rfl, congrArg (fun v => sc (dI v)) (kTo_succ (f := mkFrame) hxi).symm, rfl, trivial⟩ trivial rfl
  have hend : i = xs.length := by have := hb1; simp at this; omega
  refine v_exit ?_
  refine then_exit ?_
  refine loop_exit ?_
  refine blk_hit ?_
  refine v_seq ?_
  refine v_reg ?_
  refine sy _ (zmv rfl (e rfl rfl)) rfl rfl ?_
  refine sy _ (zas rfl (e rfl rfl)) rfl rfl ?_
  refine s_end ?_
  refine v_ret ?_
  have e1 : kTo mkFrame xs k i = (mkL mkFrame xs k).2 := kTo_end hend
  rw [← e1]
  exact post_ret (rv (.tmp (eg rfl rfl)) rfl (.lf .nil) rfl .nil) (.ro (.ro .nil)) rfl
set_option maxRecDepth 20000 in
theorem tr_heldJob (a b : Job) (ha : a.Fit) (k : Int) (h0 : 0 ≤ k) (h1 : k + 16 * (a.wt : Int) < 4611686018427387904) (hb : b = (mkvJob a k).1) : Tr Try.prog 14 [.ro ⟨true, [dI (b.No), dI (b.Client), dS (b.Ask.Name), dI (b.Ask.Typ), dI (b.Sent), dI (b.Fetched), .sl 15 (b.Stack.map Frame.cells)]⟩, .ro (one (dI k))] [one (dI (mkvJob a k).2)] := by
  simp only [Job.wt, Quest.wt] at h1
  refine tr_go tabOk Try.func14 rfl rfl rfl rfl rfl (ov := [(0, .t ⟨true, [.d (dI (b.No)), .d (dI (b.Client)), .d (dS (b.Ask.Name)), .d (dI (b.Ask.Typ)), .d (dI (b.Sent)), .d (dI (b.Fetched)), .d (.sl 15 (b.Stack.map Frame.cells))]⟩), (1, .t ⟨false, [.d (dI (k))]⟩)]) (hv := []) rfl rfl ?_
  refine v_seq ?_
  refine v_reg ?_
  refine sr 0 (.t ⟨false, [.vp 0 0]⟩) (.var [.d (dI (b.No)), .d (dI (b.Client)), .d (dS (b.Ask.Name)), .d (dI (b.Ask.Typ)), .d (dI (b.Sent)), .d (dI (b.Fetched)), .d (.sl 15 (b.Stack.map Frame.cells))]) (zbx rfl (e rfl rfl) rfl rfl rfl) rfl rfl ?_
  refine sy _ (zas rfl (ec rfl)) rfl rfl ?_
  refine s_end ?_
  refine v_seq ?_
  refine v_reg ?_
  refine sy (.t ⟨false, [.vp 0 6]⟩) (zfa tabOk rfl rfl rfl (e rfl rfl) rfl rfl) rfl rfl ?_
  refine sy (.t ⟨false, [.d (.sl 15 (b.Stack.map Frame.cells))]⟩) (zlv tabOk rfl (e rfl rfl) rfl rfl rfl) rfl rfl ?_
  refine sy _ (zmv rfl (e rfl rfl)) rfl rfl ?_
  have hq1 : b.Stack = (mkL mkFrame a.Stack k).1 := by rw [hb]; rfl
  have hc1 := mkL_ge mkFrame_ok (xs := a.Stack) (k := k) (by omega) (by omega)
  refine sd (.t ⟨false, [.d (dI ((mkL mkFrame a.Stack k).2))]⟩) (zcall 1 (sc (dI (mkL mkFrame a.Stack k).2)) [] rfl (tr_heldFrameS a.Stack b.Stack ha.Stack k (by omega) (by omega) hq1) (ar (e rfl rfl) (.d .nil) (ar (e rfl rfl) (.d .nil) .nil)) rfl rfl rfl) rfl rfl rfl rfl ?_
  refine sy _ (zas rfl (e rfl rfl)) rfl rfl ?_
  refine s_end ?_
  refine v_seq ?_
  refine v_seq ?_
  refine v_reg ?_
  refine sy _ (zmv rfl (e rfl rfl)) rfl rfl ?_
  refine sy (.t ⟨false, [.d (dB (decide (((mkL mkFrame a.Stack k).2) < (0))))]⟩) (y_bin rfl (e rfl rfl) (ec rfl) (fun _ => b_lss) rfl) rfl rfl ?_
  refine s_end ?_
  refine v_cond (e rfl rfl) (fun hb1 => ?_) fun hb1 => ?_
  · exact absurd hb1 (by simp; omega)
  refine v_skip ?_
  refine v_seq ?_
  refine v_reg ?_
  refine sy _ (zmv rfl (e rfl rfl)) rfl rfl ?_
  refine sy _ (zas rfl (e rfl rfl)) rfl rfl ?_
  refine s_end ?_
  refine v_ret ?_
  exact post_ret (rv (.tmp (eg rfl rfl)) rfl (.lf .nil) rfl .nil) (.ro (.ro .nil)) rfl
end Go.Proofs.Ytkcpbahcnlhmjaa.V
