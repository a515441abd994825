/-
  The nearest zone.
-/
import Derived.Test.YtglilpigoocgeaaGreatDoorFN
import Derived.Test.YtglilpigoocgeaaGreatDoorFK
import Derived.Test.YtglilpigoocgeaaGreatDoorFO
import Derived.Test.YtglilpigoocgeaaGreatDoorVE
import Derived.Test.YtglilpigoocgeaaGreatDoorN
namespace Go.Proofs.YtglilpigoocgeaaGreatDoor.V
open Go
set_option linter.unusedVariables false
set_option linter.unusedSimpArgs false
def n_spec_NearestL1 (a0 : Cache) (a1 : Int) (v1 : List ByteArray) : Nat → Nat → (ByteArray × Bool)
  | 0, _ => default
  | n + 1, i => cond (decide (((i : Int)) < (((v1).length : Int)))) (atL (v1) (i) (fun x2 => bindv (n_spec_ServersKnown a0 a1 x2) (fun v3 => cond (decide ((0) < (((v3).length : Int)))) (bindv (n_spec_AllAddrs a0 a1 v3) (fun v4 => cond (decide ((0) < (((v4).length : Int)))) ((x2, true)) (bindv (n_spec_Outside v3 x2) (fun v5 => cond (decide ((0) < (((v5).length : Int)))) ((x2, true)) (n_spec_NearestL1 a0 a1 v1 n (i + 1)))))) (n_spec_NearestL1 a0 a1 v1 n (i + 1))))) (((⟨#[]⟩ : ByteArray), false))
def n_spec_Nearest (a0 : Cache) (a1 : Int) (a2 : ByteArray) : ByteArray × Bool := bindv (n_spec_Above a2) (fun v1 => n_spec_NearestL1 a0 a1 v1 ((v1).length + 1) 0)
set_option maxHeartbeats 4000000 in
set_option maxRecDepth 20000 in
theorem tr_n_spec_Nearest (a0 : Cache) (a1 : Int) (a2 : ByteArray) (h0 : Cache.Fit a0) (h2 : fitS a2) : Tr Tryz.prog 18 [.ro ⟨true, [dI (a0.Cap), .sl 6 (a0.L.map Entry.cells)]⟩, .ro ⟨false, [dI (a1)]⟩, .ro ⟨false, [dS (a2)]⟩] [⟨false, [dS ((n_spec_Nearest a0 a1 a2).1)]⟩, ⟨false, [dB ((n_spec_Nearest a0 a1 a2).2)]⟩] := by
  obtain ⟨r, hr⟩ : ∃ r, n_spec_Nearest a0 a1 a2 = r := ⟨_, rfl⟩
  rw [hr]
  rw [n_spec_Nearest] at hr
  refine tr_go tabOk Tryz.func18 rfl rfl rfl rfl rfl (ov := [(0, .t ⟨true, [.d (dI (a0.Cap)), .d (.sl 6 (a0.L.map Entry.cells))]⟩), (1, .t ⟨false, [.d (dI (a1))]⟩), (2, .t ⟨false, [.d (dS (a2))]⟩)]) (hv := []) rfl rfl ?_
  refine v_seq ?_
  refine v_reg ?_
  refine sr 0 (.t ⟨false, [.vp 0 0]⟩) (.var [.d (dI (a0.Cap)), .d (.sl 6 (a0.L.map Entry.cells))]) (zbx rfl (e rfl rfl) rfl rfl rfl) rfl rfl ?_
  refine sy _ (zas rfl (ec rfl)) rfl rfl ?_
  refine sy _ (zas rfl (ec rfl)) rfl rfl ?_
  refine s_end ?_
  refine v_seq ?_
  refine v_reg ?_
  refine sy _ (zmv rfl (e rfl rfl)) rfl rfl ?_
  obtain ⟨v1, ev1⟩ : ∃ v : List ByteArray, v = n_spec_Above a2 := ⟨_, rfl⟩
  replace hr := bv_step ev1 hr
  have hfv1 : fitL fitS v1 := by rw [ev1]; exact (fitx_n_spec_Above a2 h2)
  refine sd (.t ⟨false, [.d (.sl 1 (v1.map encS))]⟩) (zcd (.t ⟨false, [.d (.sl 1 (v1.map encS))]⟩) rfl (by rw [ev1]; exact (tr_n_spec_Above a2 h2) : Tr Tryz.prog 35 _ [⟨false, [.sl 1 (v1.map encS)]⟩]) (ar (e rfl rfl) (.d .nil) .nil) rfl) rfl rfl rfl rfl ?_
  refine sy _ (zas rfl (e rfl rfl)) rfl rfl ?_
  refine s_end ?_
  refine v_seq ?_
  refine v_seq ?_
  refine v_reg ?_
  refine sy _ (zas rfl (ec rfl)) rfl rfl ?_
  refine s_end ?_
  refine v_block ?_
  refine v_lp (fun (q : Nat × Nat) => [(1, .t ⟨false, [.d (dI (a1))]⟩), (3, .t ⟨false, [.vp 0 0]⟩), (8, .t ⟨false, [.d (.sl 1 (v1.map encS))]⟩), (9, .t ⟨false, [.d (dI (q.2 : Int))]⟩)]) (fun q => [(0, .var [.d (dI (a0.Cap)), .d (.sl 6 (a0.L.map Entry.cells))])]) (fun q => n_spec_NearestL1 a0 a1 v1 q.1 q.2 = r ∧ (q.2 ≤ (v1).length) ∧ (q.2 + q.1 = (v1).length + 1)) (fun q => q.1) ((v1).length + 1, (0 : Nat)) ⟨hr, by (try dsimp only); (try simp only [List.length_nil, List.length_cons, List.length_replicate]); first | done | omega | exact Nat.zero_le _, by (try dsimp only); (try simp only [List.length_nil, List.length_cons, List.length_replicate]); first | done | omega | exact Nat.zero_le _⟩ ⟨rfl, rfl, rfl, rfl, trivial⟩ ⟨rfl, trivial⟩ rfl (fun q hq => ?_)
  obtain ⟨n, i⟩ := q
  obtain ⟨hr, hi1x0, hi1x1⟩ := hq
  dsimp only at hr hi1x0 hi1x1
  show VWp _ _ _ (mk [(1, .t ⟨false, [.d (dI (a1))]⟩), (3, .t ⟨false, [.vp 0 0]⟩), (8, .t ⟨false, [.d (.sl 1 (v1.map encS))]⟩), (9, .t ⟨false, [.d (dI (i : Int))]⟩)] _ [(0, .var [.d (dI (a0.Cap)), .d (.sl 6 (a0.L.map Entry.cells))])])
  rcases n with _ | n
  · exfalso; omega
  rw [n_spec_NearestL1] at hr
  refine v_seq ?_
  refine v_seq ?_
  refine v_reg ?_
  refine sy _ (zmv rfl (e rfl rfl)) rfl rfl ?_
  refine sy _ (zmv rfl (e rfl rfl)) rfl rfl ?_
  have hB1 := (hfv1).1
  refine sy (.t ⟨false, [.d (dI ((v1).length : Int))]⟩) (zlm tabOk rfl rfl (e rfl rfl) .d) rfl rfl ?_
  refine sy (.t ⟨false, [.d (dB (decide (((i : Int)) < (((v1).length : Int)))))]⟩) (y_bin rfl (e rfl rfl) (e rfl rfl) (fun _ => b_lss) rfl) rfl rfl ?_
  refine s_end ?_
  refine v_cond (e rfl rfl) (fun hb1 => ?_) fun hb1 => ?_
  · replace hr := bf_t hb1 hr
    have hb1p := dec_t hb1
    refine v_skip ?_
    refine v_seq ?_
    refine v_block ?_
    refine v_seq ?_
    obtain ⟨x2, hx2⟩ : ∃ x, (v1)[i]? = some x := some_of_lt (by omega)
    replace hr := at_step hx2 hr
    have hfx2 := hfv1.2 _ (List.mem_of_getElem? hx2)
    obtain ⟨v3, ev3⟩ : ∃ v : List ByteArray, v = n_spec_ServersKnown a0 a1 x2 := ⟨_, rfl⟩
    replace hr := bv_step ev3 hr
    have hfv3 : fitL fitS v3 := by rw [ev3]; exact (fitx_n_spec_ServersKnown a0 a1 x2 h0 hfx2)
    refine v_drw2 [⟨.t ⟨true, [.d (dI (a0.Cap)), .d (.sl 6 (a0.L.map Entry.cells))]⟩, [], [3], [0], false⟩, ⟨.t ⟨false, [.d (dI (a1))]⟩, [], [1], [], false⟩, ⟨.t ⟨false, [.d (.sl 1 (v1.map encS))]⟩, [], [8], [], false⟩, ⟨.t ⟨false, [.d (dI (i : Int))]⟩, [], [9], [], false⟩, ⟨.t ⟨false, [.fe 1 (v1.map encS) i 0]⟩, [], [21, 22], [], false⟩, ⟨.t ⟨false, [.d (dS (x2))]⟩, [], [23], [], false⟩, ⟨.t ⟨false, [.d (.sl 1 (v3.map encS))]⟩, [], [19, 20, 24], [], false⟩, ⟨.t ⟨false, [.d (.sl 1 (v3.map encS))]⟩, [], [25], [], false⟩] mixed (.c rfl (.c rfl (.c rfl (.c rfl (.c rfl (.c rfl (.c rfl (.c rfl .nil)))))))) (.s rfl (.s rfl (.s rfl (.s rfl (.s rfl (.s rfl (.s rfl (.s rfl .nil)))))))) (by kernel_rfl) (by kernel_rfl) ⟨gN rfl rfl (fun t h A => by exact dy (zlv tabOk rfl (A.e rfl rfl rfl) (A.h rfl rfl) rfl rfl)), gN rfl rfl (fun t h A => by exact dy (zmv rfl (A.e rfl rfl rfl))), gN rfl rfl (fun t h A => by exact dy (zmv rfl (A.e rfl rfl rfl))), gN rfl rfl (fun t h A => by exact dy (zmv rfl (A.e rfl rfl rfl))), gN rfl rfl (fun t h A => by exact dy (zix tabOk rfl rfl rfl (A.e rfl rfl rfl) (A.e rfl rfl rfl) (ltm_of_some hx2))), gN rfl rfl (fun t h A => by exact dy (zle tabOk rfl (A.e rfl rfl rfl) (getm hx2) rfl rfl)), gN rfl rfl (fun t h A => by exact zcd (.t ⟨false, [.d (.sl 1 (v3.map encS))]⟩) rfl (by rw [ev3]; exact (tr_n_spec_ServersKnown a0 a1 x2 h0 hfx2) : Tr Tryz.prog 20 _ [⟨false, [.sl 1 (v3.map encS)]⟩]) (ar (A.e rfl rfl rfl) (.d (.d .nil)) (ar (A.e rfl rfl rfl) (.d .nil) (ar (A.e rfl rfl rfl) (.d .nil) .nil))) rfl), gN rfl rfl (fun t h A => by exact dy (zas rfl (A.e rfl rfl rfl))), trivial⟩ ?_
    refine s_end ?_
    refine v_seq ?_
    refine v_reg ?_
    refine sy _ (zmv rfl (e rfl rfl)) rfl rfl ?_
    have hB2 := (hfv3).1
    refine sy (.t ⟨false, [.d (dI ((v3).length : Int))]⟩) (zlm tabOk rfl rfl (e rfl rfl) .d) rfl rfl ?_
    refine sy (.t ⟨false, [.d (dB (decide ((0) < (((v3).length : Int)))))]⟩) (y_bin rfl (e rfl rfl) (ec rfl) (fun _ => b_gtr) rfl) rfl rfl ?_
    refine sy _ (zmv rfl (e rfl rfl)) rfl rfl ?_
    rcases Bool.eq_false_or_eq_true (decide ((0) < (((v3).length : Int)))) with hg2 | hg2
    · replace hr := bf_t hg2 hr
      have hg2p := dec_t hg2
      refine gr rfl rfl rfl (eg rfl rfl) hg2 ?_
      refine sy (.t ⟨true, [.d (dI (a0.Cap)), .d (.sl 6 (a0.L.map Entry.cells))]⟩) (zlv tabOk rfl (e rfl rfl) rfl rfl rfl) rfl rfl ?_
      refine gr rfl rfl rfl (eg rfl rfl) hg2 ?_
      refine sy _ (zmv rfl (e rfl rfl)) rfl rfl ?_
      refine gr rfl rfl rfl (eg rfl rfl) hg2 ?_
      refine sy _ (zmv rfl (e rfl rfl)) rfl rfl ?_
      refine gr rfl rfl rfl (eg rfl rfl) hg2 ?_
      obtain ⟨v4, ev4⟩ : ∃ v : List Int, v = n_spec_AllAddrs a0 a1 v3 := ⟨_, rfl⟩
      replace hr := bv_step ev4 hr
      refine sd (.t ⟨false, [.d (.sl 1 (v4.map encI))]⟩) (zcd (.t ⟨false, [.d (.sl 1 (v4.map encI))]⟩) rfl (by rw [ev4]; exact (tr_n_spec_AllAddrs a0 a1 v3 h0 hfv3) : Tr Tryz.prog 21 _ [⟨false, [.sl 1 (v4.map encI)]⟩]) (ar (e rfl rfl) (.d (.d .nil)) (ar (e rfl rfl) (.d .nil) (ar (e rfl rfl) (.d .nil) .nil))) rfl) rfl rfl rfl rfl ?_
      refine gr rfl rfl rfl (eg rfl rfl) hg2 ?_
      refine sy (.t ⟨false, [.d (dI ((v4).length : Int))]⟩) (zlm tabOk rfl rfl (e rfl rfl) .d) rfl rfl ?_
      refine gr rfl rfl rfl (eg rfl rfl) hg2 ?_
      refine sy (.t ⟨false, [.d (dB (decide ((0) < (((v4).length : Int)))))]⟩) (y_bin rfl (e rfl rfl) (ec rfl) (fun _ => b_gtr) rfl) rfl rfl ?_
      refine gr rfl rfl rfl (eg rfl rfl) hg2 ?_
      refine sy _ (zmv rfl (e rfl rfl)) rfl rfl ?_
      rcases Bool.eq_false_or_eq_true (decide ((0) < (((v4).length : Int)))) with hg3 | hg3
      · replace hr := bf_t hg3 hr
        have hg3p := dec_t hg3
        refine gs rfl rfl rfl (eg rfl rfl) hg3 rfl ?_
        refine gs rfl rfl rfl (eg rfl rfl) hg3 rfl ?_
        refine gs rfl rfl rfl (eg rfl rfl) hg3 rfl ?_
        refine gs rfl rfl rfl (eg rfl rfl) hg3 rfl ?_
        refine gs rfl rfl rfl (eg rfl rfl) hg3 rfl ?_
        refine gs rfl rfl rfl (eg rfl rfl) hg3 rfl ?_
        refine gs rfl rfl rfl (eg rfl rfl) hg3 rfl ?_
        refine gs rfl rfl rfl (eg rfl rfl) hg3 rfl ?_
        refine gr rfl rfl rfl (eg rfl rfl) hg2 ?_
        refine sy (.t ⟨false, [.d (dB (true))]⟩) (zpt rfl (e rfl rfl) hg3 (ec rfl)) rfl rfl ?_
        refine sy (.t ⟨false, [.d (dB (true))]⟩) (zpt rfl (e rfl rfl) hg2 (e rfl rfl)) rfl rfl ?_
        refine s_end ?_
        refine v_cT (e rfl rfl) rfl ?_
        refine v_seq ?_
        refine v_reg ?_
        refine sy _ (zmv rfl (e rfl rfl)) rfl rfl ?_
        refine sy _ (zmv rfl (e rfl rfl)) rfl rfl ?_
        refine sy (.t ⟨false, [.fe 1 (v1.map encS) i 0]⟩) (zix tabOk rfl rfl rfl (e rfl rfl) (e rfl rfl) (ltm_of_some hx2)) rfl rfl ?_
        refine sy (.t ⟨false, [.d (dS (x2))]⟩) (zle tabOk rfl (e rfl rfl) (getm hx2) rfl rfl) rfl rfl ?_
        refine sy _ (zas rfl (e rfl rfl)) rfl rfl ?_
        refine sy _ (zas rfl (ec rfl)) rfl rfl ?_
        refine s_end ?_
        refine v_ret ?_
        subst hr
        exact post_ret (rv (.tmp (eg rfl rfl)) rfl (.lf .nil) rfl (rv (.tmp (eg rfl rfl)) rfl (.lf .nil) rfl .nil)) (.ro (.ro (.ro .nil))) rfl
      replace hr := bf_f hg3 hr
      have hg3p := dec_f hg3
      refine gr rfl rfl rfl (eg rfl rfl) hg3 ?_
      refine sy _ (zmv rfl (e rfl rfl)) rfl rfl ?_
      refine gr rfl rfl rfl (eg rfl rfl) hg3 ?_
      refine sy _ (zmv rfl (e rfl rfl)) rfl rfl ?_
      refine gr rfl rfl rfl (eg rfl rfl) hg3 ?_
      refine sy _ (zmv rfl (e rfl rfl)) rfl rfl ?_
      refine gr rfl rfl rfl (eg rfl rfl) hg3 ?_
      refine sy (.t ⟨false, [.fe 1 (v1.map encS) i 0]⟩) (zix tabOk rfl rfl rfl (e rfl rfl) (e rfl rfl) (ltm_of_some hx2)) rfl rfl ?_
      refine gr rfl rfl rfl (eg rfl rfl) hg3 ?_
      refine sy (.t ⟨false, [.d (dS (x2))]⟩) (zle tabOk rfl (e rfl rfl) (getm hx2) rfl rfl) rfl rfl ?_
      refine gr rfl rfl rfl (eg rfl rfl) hg3 ?_
      obtain ⟨v5, ev5⟩ : ∃ v : List ByteArray, v = n_spec_Outside v3 x2 := ⟨_, rfl⟩
      replace hr := bv_step ev5 hr
      have hfv5 : fitL fitS v5 := by rw [ev5]; exact (fitx_n_spec_Outside v3 x2 hfv3 hfx2)
      refine sd (.t ⟨false, [.d (.sl 1 (v5.map encS))]⟩) (zcd (.t ⟨false, [.d (.sl 1 (v5.map encS))]⟩) rfl (by rw [ev5]; exact (tr_n_spec_Outside v3 x2 hfv3 hfx2) : Tr Tryz.prog 22 _ [⟨false, [.sl 1 (v5.map encS)]⟩]) (ar (e rfl rfl) (.d .nil) (ar (e rfl rfl) (.d .nil) .nil)) rfl) rfl rfl rfl rfl ?_
      refine gr rfl rfl rfl (eg rfl rfl) hg3 ?_
      have hB4 := (hfv5).1
      refine sy (.t ⟨false, [.d (dI ((v5).length : Int))]⟩) (zlm tabOk rfl rfl (e rfl rfl) .d) rfl rfl ?_
      refine gr rfl rfl rfl (eg rfl rfl) hg3 ?_
      refine sy (.t ⟨false, [.d (dB (decide ((0) < (((v5).length : Int)))))]⟩) (y_bin rfl (e rfl rfl) (ec rfl) (fun _ => b_gtr) rfl) rfl rfl ?_
      refine gr rfl rfl rfl (eg rfl rfl) hg2 ?_
      refine sy (.t ⟨false, [.d (dB (decide ((0) < (((v5).length : Int)))))]⟩) (zpf rfl (e rfl rfl) hg3 (e rfl rfl)) rfl rfl ?_
      refine sy (.t ⟨false, [.d (dB (decide ((0) < (((v5).length : Int)))))]⟩) (zpt rfl (e rfl rfl) hg2 (e rfl rfl)) rfl rfl ?_
      refine s_end ?_
      refine v_cond (e rfl rfl) (fun hb4 => ?_) fun hb4 => ?_
      · replace hr := bf_t hb4 hr
        have hb4p := dec_t hb4
        refine v_seq ?_
        refine v_reg ?_
        refine sy _ (zmv rfl (e rfl rfl)) rfl rfl ?_
        refine sy _ (zmv rfl (e rfl rfl)) rfl rfl ?_
        refine sy (.t ⟨false, [.fe 1 (v1.map encS) i 0]⟩) (zix tabOk rfl rfl rfl (e rfl rfl) (e rfl rfl) (ltm_of_some hx2)) rfl rfl ?_
        refine sy (.t ⟨false, [.d (dS (x2))]⟩) (zle tabOk rfl (e rfl rfl) (getm hx2) rfl rfl) rfl rfl ?_
        refine sy _ (zas rfl (e rfl rfl)) rfl rfl ?_
        refine sy _ (zas rfl (ec rfl)) rfl rfl ?_
        refine s_end ?_
        refine v_ret ?_
        subst hr
        exact post_ret (rv (.tmp (eg rfl rfl)) rfl (.lf .nil) rfl (rv (.tmp (eg rfl rfl)) rfl (.lf .nil) rfl .nil)) (.ro (.ro (.ro .nil))) rfl
      replace hr := bf_f hb4 hr
      have hb4p := dec_f hb4
      refine v_skip ?_
      refine blk_norm ?_
      refine v_reg ?_
      refine sy _ (zmv rfl (e rfl rfl)) rfl rfl ?_
      refine sy (.t ⟨false, [.d (dI (i + 1 : Int))]⟩) (y_bin rfl (e rfl rfl) (ec rfl) (fun _ => b_addn (by omega) (by omega)) rfl) rfl rfl ?_
      refine sy _ (zas rfl (e rfl rfl)) rfl rfl ?_
      refine s_end ?_
      exact lp_next (n, i + 1) ⟨hr, by (try simp only [List.length_append, List.length_cons, List.length_nil, List.length_set]); first | done | omega, by (try simp only [List.length_append, List.length_cons, List.length_nil, List.length_set]); first | done | omega⟩ (Nat.lt_succ_self _) ⟨rfl, rfl, rfl, rfl, trivial⟩ ⟨rfl, trivial⟩ rfl
    replace hr := bf_f hg2 hr
    have hg2p := dec_f hg2
    refine gs rfl rfl rfl (eg rfl rfl) hg2 rfl ?_
    refine gs rfl rfl rfl (eg rfl rfl) hg2 rfl ?_
    refine gs rfl rfl rfl (eg rfl rfl) hg2 rfl ?_
    refine gs rfl rfl rfl (eg rfl rfl) hg2 rfl ?_
    refine gs rfl rfl rfl (eg rfl rfl) hg2 rfl ?_
    refine gs rfl rfl rfl (eg rfl rfl) hg2 rfl ?_
    refine gs rfl rfl rfl (eg rfl rfl) hg2 rfl ?_
    refine gs0 rfl rfl rfl (eg rfl rfl) rfl ?_
    refine gs0 rfl rfl rfl (eg rfl rfl) rfl ?_
    refine gs0 rfl rfl rfl (eg rfl rfl) rfl ?_
    refine gs0 rfl rfl rfl (eg rfl rfl) rfl ?_
    refine gs0 rfl rfl rfl (eg rfl rfl) rfl ?_
    refine gs0 rfl rfl rfl (eg rfl rfl) rfl ?_
    refine gs0 rfl rfl rfl (eg rfl rfl) rfl ?_
    refine gs0 rfl rfl rfl (eg rfl rfl) rfl ?_
    refine gs rfl rfl rfl (eg rfl rfl) hg2 rfl ?_
    refine sy (.t ⟨false, [.d (dB (false))]⟩) (zpf rfl (e rfl rfl) hg2 (ec rfl)) rfl rfl ?_
    refine s_end ?_
    refine v_cF (e rfl rfl) rfl ?_
    refine v_skip ?_
    refine blk_norm ?_
    refine v_reg ?_
    refine sy _ (zmv rfl (e rfl rfl)) rfl rfl ?_
    refine sy (.t ⟨false, [.d (dI (i + 1 : Int))]⟩) (y_bin rfl (e rfl rfl) (ec rfl) (fun _ => b_addn (by omega) (by omega)) rfl) rfl rfl ?_
    refine sy _ (zas rfl (e rfl rfl)) rfl rfl ?_
    refine s_end ?_
    exact lp_next (n, i + 1) ⟨hr, by (try simp only [List.length_append, List.length_cons, List.length_nil, List.length_set]); first | done | omega, by (try simp only [List.length_append, List.length_cons, List.length_nil, List.length_set]); first | done | omega⟩ (Nat.lt_succ_self _) ⟨rfl, rfl, rfl, rfl, trivial⟩ ⟨rfl, trivial⟩ rfl
  replace hr := bf_f hb1 hr
  have hb1p := dec_f hb1
  refine v_exit ?_
  refine then_exit ?_
  refine loop_exit ?_
  refine blk_hit ?_
  refine v_seq ?_
  refine v_reg ?_
  refine sy _ (zas rfl (ec rfl)) rfl rfl ?_
  refine sy _ (zas rfl (ec rfl)) rfl rfl ?_
  refine s_end ?_
  refine v_ret ?_
  subst hr
  exact post_ret (rv (.tmp (eg rfl rfl)) rfl (.lf .nil) rfl (rv (.tmp (eg rfl rfl)) rfl (.lf .nil) rfl .nil)) (.ro (.ro (.ro .nil))) rfl
set_option maxHeartbeats 4000000 in
theorem fitx_n_spec_Nearest (a0 : Cache) (a1 : Int) (a2 : ByteArray) (h0 : Cache.Fit a0) (h2 : fitS a2) : fitS (n_spec_Nearest a0 a1 a2).1 := by
  obtain ⟨r, hr⟩ : ∃ r, n_spec_Nearest a0 a1 a2 = r := ⟨_, rfl⟩
  rw [hr]
  rw [n_spec_Nearest] at hr
  obtain ⟨v1, ev1⟩ : ∃ v : List ByteArray, v = n_spec_Above a2 := ⟨_, rfl⟩
  replace hr := bv_step ev1 hr
  have hfv1 : fitL fitS v1 := by rw [ev1]; exact (fitx_n_spec_Above a2 h2)
  refine fx_lp (fun (q : Nat × Nat) => n_spec_NearestL1 a0 a1 v1 q.1 q.2 = r ∧ (q.2 ≤ (v1).length) ∧ (q.2 + q.1 = (v1).length + 1)) (fun q => q.1) ((v1).length + 1, (0 : Nat)) ⟨hr, by (try dsimp only); (try simp only [List.length_nil, List.length_cons, List.length_replicate]); first | done | omega | exact Nat.zero_le _, by (try dsimp only); (try simp only [List.length_nil, List.length_cons, List.length_replicate]); first | done | omega | exact Nat.zero_le _⟩ (fun q hq hn1 => ?_)
  obtain ⟨n, i⟩ := q
  obtain ⟨hr, hi1x0, hi1x1⟩ := hq
  dsimp only at hr hi1x0 hi1x1
  rcases n with _ | n
  · exfalso; omega
  rw [n_spec_NearestL1] at hr
  have hB1 : (v1).length ≤ _ := (hfv1).1
  rcases Bool.eq_false_or_eq_true (decide (((i : Int)) < (((v1).length : Int)))) with hb1 | hb1
  · replace hr := bf_t hb1 hr
    have hb1p := dec_t hb1
    obtain ⟨x2, hx2⟩ : ∃ x, (v1)[i]? = some x := some_of_lt (by omega)
    replace hr := at_step hx2 hr
    have hfx2 := hfv1.2 _ (List.mem_of_getElem? hx2)
    obtain ⟨v3, ev3⟩ : ∃ v : List ByteArray, v = n_spec_ServersKnown a0 a1 x2 := ⟨_, rfl⟩
    replace hr := bv_step ev3 hr
    have hfv3 : fitL fitS v3 := by rw [ev3]; exact (fitx_n_spec_ServersKnown a0 a1 x2 h0 hfx2)
    have hB2 : (v3).length ≤ _ := (hfv3).1
    rcases Bool.eq_false_or_eq_true (decide ((0) < (((v3).length : Int)))) with hg2 | hg2
    · replace hr := bf_t hg2 hr
      have hg2p := dec_t hg2
      obtain ⟨v4, ev4⟩ : ∃ v : List Int, v = n_spec_AllAddrs a0 a1 v3 := ⟨_, rfl⟩
      replace hr := bv_step ev4 hr
      rcases Bool.eq_false_or_eq_true (decide ((0) < (((v4).length : Int)))) with hg3 | hg3
      · replace hr := bf_t hg3 hr
        have hg3p := dec_t hg3
        subst hr
        exact hfx2
      replace hr := bf_f hg3 hr
      have hg3p := dec_f hg3
      obtain ⟨v5, ev5⟩ : ∃ v : List ByteArray, v = n_spec_Outside v3 x2 := ⟨_, rfl⟩
      replace hr := bv_step ev5 hr
      have hfv5 : fitL fitS v5 := by rw [ev5]; exact (fitx_n_spec_Outside v3 x2 hfv3 hfx2)
      have hB4 : (v5).length ≤ _ := (hfv5).1
      rcases Bool.eq_false_or_eq_true (decide ((0) < (((v5).length : Int)))) with hb4 | hb4
      · replace hr := bf_t hb4 hr
        have hb4p := dec_t hb4
        subst hr
        exact hfx2
      replace hr := bf_f hb4 hr
      have hb4p := dec_f hb4
      exact hn1 (n, i + 1) (Nat.lt_succ_self _) ⟨hr, by (try simp only [List.length_append, List.length_cons, List.length_nil, List.length_set]); first | done | omega, by (try simp only [List.length_append, List.length_cons, List.length_nil, List.length_set]); first | done | omega⟩
    replace hr := bf_f hg2 hr
    have hg2p := dec_f hg2
    exact hn1 (n, i + 1) (Nat.lt_succ_self _) ⟨hr, by (try simp only [List.length_append, List.length_cons, List.length_nil, List.length_set]); first | done | omega, by (try simp only [List.length_append, List.length_cons, List.length_nil, List.length_set]); first | done | omega⟩
  replace hr := bf_f hb1 hr
  have hb1p := dec_f hb1
  subst hr
  exact (fitS_lit (⟨#[]⟩ : ByteArray) (Nat.le_of_ble_eq_true rfl))
def n_impl_NearestL1 (a0 : Cache) (a1 : Int) (v1 : List ByteArray) : Nat → Nat → (ByteArray × Bool)
  | 0, _ => default
  | n + 1, z14 => cond (decide (((z14 : Int)) < (((v1).length : Int)))) (atL (v1) (z14) (fun x2 => bindv (n_impl_ServersKnown a0 a1 x2) (fun v3 => bindv (n_impl_Outside v3 x2) (fun v4 => cond (decide ((0) < (((v4).length : Int)))) ((x2, true)) (bindv (n_impl_AllAddrs a0 a1 v3) (fun v5 => cond (decide ((0) < (((v5).length : Int)))) ((x2, true)) (n_impl_NearestL1 a0 a1 v1 n (z14 + 1)))))))) (((⟨#[]⟩ : ByteArray), false))
def n_impl_Nearest (a0 : Cache) (a1 : Int) (a2 : ByteArray) : ByteArray × Bool := bindv (n_impl_Above a2) (fun v1 => n_impl_NearestL1 a0 a1 v1 ((v1).length + 1) 0)
set_option maxHeartbeats 4000000 in
set_option maxRecDepth 20000 in
theorem tr_n_impl_Nearest (a0 : Cache) (a1 : Int) (a2 : ByteArray) (h0 : Cache.Fit a0) (h2 : fitS a2) : Tr Tryz.prog 25 [.ro ⟨true, [dI (a0.Cap), .sl 6 (a0.L.map Entry.cells)]⟩, .ro ⟨false, [dI (a1)]⟩, .ro ⟨false, [dS (a2)]⟩] [⟨false, [dS ((n_impl_Nearest a0 a1 a2).1)]⟩, ⟨false, [dB ((n_impl_Nearest a0 a1 a2).2)]⟩] := by
  obtain ⟨r, hr⟩ : ∃ r, n_impl_Nearest a0 a1 a2 = r := ⟨_, rfl⟩
  rw [hr]
  rw [n_impl_Nearest] at hr
  refine tr_go tabOk Tryz.func25 rfl rfl rfl rfl rfl (ov := [(0, .t ⟨true, [.d (dI (a0.Cap)), .d (.sl 6 (a0.L.map Entry.cells))]⟩), (1, .t ⟨false, [.d (dI (a1))]⟩), (2, .t ⟨false, [.d (dS (a2))]⟩)]) (hv := []) rfl rfl ?_
  refine v_seq ?_
  refine v_reg ?_
  refine sr 0 (.t ⟨false, [.vp 0 0]⟩) (.var [.d (dI (a0.Cap)), .d (.sl 6 (a0.L.map Entry.cells))]) (zbx rfl (e rfl rfl) rfl rfl rfl) rfl rfl ?_
  refine sy _ (zas rfl (ec rfl)) rfl rfl ?_
  refine sy _ (zas rfl (ec rfl)) rfl rfl ?_
  refine s_end ?_
  refine v_seq ?_
  refine v_seq ?_
  refine v_reg ?_
  refine sy _ (zmv rfl (e rfl rfl)) rfl rfl ?_
  obtain ⟨v1, ev1⟩ : ∃ v : List ByteArray, v = n_impl_Above a2 := ⟨_, rfl⟩
  replace hr := bv_step ev1 hr
  have hfv1 : fitL fitS v1 := by rw [ev1]; exact (fitx_n_impl_Above a2 h2)
  refine sd (.t ⟨false, [.d (.sl 1 (v1.map encS))]⟩) (zcd (.t ⟨false, [.d (.sl 1 (v1.map encS))]⟩) rfl (by rw [ev1]; exact (tr_n_impl_Above a2 h2) : Tr Tryz.prog 42 _ [⟨false, [.sl 1 (v1.map encS)]⟩]) (ar (e rfl rfl) (.d .nil) .nil) rfl) rfl rfl rfl rfl ?_
  have hB1 := (hfv1).1
  refine sy (.t ⟨false, [.d (dI ((v1).length : Int))]⟩) (zlm tabOk rfl rfl (e rfl rfl) .d) rfl rfl ?_
  refine sy _ (zmv rfl (ec rfl)) rfl rfl ?_
  refine s_end ?_
  refine v_block ?_
  refine v_lp (fun (q : Nat × Nat) => [(1, .t ⟨false, [.d (dI (a1))]⟩), (3, .t ⟨false, [.vp 0 0]⟩), (12, .t ⟨false, [.d (.sl 1 (v1.map encS))]⟩), (13, .t ⟨false, [.d (dI ((v1).length : Int))]⟩), (14, .t ⟨false, [.d (dI (q.2 : Int))]⟩)]) (fun q => [(0, .var [.d (dI (a0.Cap)), .d (.sl 6 (a0.L.map Entry.cells))])]) (fun q => n_impl_NearestL1 a0 a1 v1 q.1 q.2 = r ∧ (q.2 ≤ (v1).length) ∧ (q.2 + q.1 = (v1).length + 1)) (fun q => q.1) ((v1).length + 1, (0 : Nat)) ⟨hr, by (try dsimp only); (try simp only [List.length_nil, List.length_cons, List.length_replicate]); first | done | omega | exact Nat.zero_le _, by (try dsimp only); (try simp only [List.length_nil, List.length_cons, List.length_replicate]); first | done | omega | exact Nat.zero_le _⟩ ⟨rfl, rfl, rfl, rfl, rfl, trivial⟩ ⟨rfl, trivial⟩ rfl (fun q hq => ?_)
  obtain ⟨n, z14⟩ := q
  obtain ⟨hr, hi1x0, hi1x1⟩ := hq
  dsimp only at hr hi1x0 hi1x1
  show VWp _ _ _ (mk [(1, .t ⟨false, [.d (dI (a1))]⟩), (3, .t ⟨false, [.vp 0 0]⟩), (12, .t ⟨false, [.d (.sl 1 (v1.map encS))]⟩), (13, .t ⟨false, [.d (dI ((v1).length : Int))]⟩), (14, .t ⟨false, [.d (dI (z14 : Int))]⟩)] _ [(0, .var [.d (dI (a0.Cap)), .d (.sl 6 (a0.L.map Entry.cells))])])
  rcases n with _ | n
  · exfalso; omega
  rw [n_impl_NearestL1] at hr
  refine v_seq ?_
  refine v_reg ?_
  refine sy (.t ⟨false, [.d (dB (decide (((z14 : Int)) < (((v1).length : Int)))))]⟩) (y_bin rfl (e rfl rfl) (e rfl rfl) (fun _ => b_lss) rfl) rfl rfl ?_
  refine s_end ?_
  refine v_seq ?_
  refine v_cond (e rfl rfl) (fun hb1 => ?_) fun hb1 => ?_
  · replace hr := bf_t hb1 hr
    have hb1p := dec_t hb1
    refine v_skip ?_
    refine v_seq ?_
    refine v_block ?_
    refine v_seq ?_
    refine v_reg ?_
    obtain ⟨x2, hx2⟩ : ∃ x, (v1)[z14]? = some x := some_of_lt (by omega)
    replace hr := at_step hx2 hr
    have hfx2 := hfv1.2 _ (List.mem_of_getElem? hx2)
    refine sy (.t ⟨false, [.fe 1 (v1.map encS) z14 0]⟩) (zix tabOk rfl rfl rfl (e rfl rfl) (e rfl rfl) (ltm_of_some hx2)) rfl rfl ?_
    refine sy (.t ⟨false, [.d (dS (x2))]⟩) (zle tabOk rfl (e rfl rfl) (getm hx2) rfl rfl) rfl rfl ?_
    refine sy _ (zas rfl (e rfl rfl)) rfl rfl ?_
    refine s_end ?_
    refine v_seq ?_
    refine v_reg ?_
    refine sy (.t ⟨true, [.d (dI (a0.Cap)), .d (.sl 6 (a0.L.map Entry.cells))]⟩) (zlv tabOk rfl (e rfl rfl) rfl rfl rfl) rfl rfl ?_
    refine sy _ (zmv rfl (e rfl rfl)) rfl rfl ?_
    refine sy _ (zmv rfl (e rfl rfl)) rfl rfl ?_
    obtain ⟨v3, ev3⟩ : ∃ v : List ByteArray, v = n_impl_ServersKnown a0 a1 x2 := ⟨_, rfl⟩
    replace hr := bv_step ev3 hr
    have hfv3 : fitL fitS v3 := by rw [ev3]; exact (fitx_n_impl_ServersKnown a0 a1 x2 h0 hfx2)
    refine sd (.t ⟨false, [.d (.sl 1 (v3.map encS))]⟩) (zcd (.t ⟨false, [.d (.sl 1 (v3.map encS))]⟩) rfl (by rw [ev3]; exact (tr_n_impl_ServersKnown a0 a1 x2 h0 hfx2) : Tr Tryz.prog 27 _ [⟨false, [.sl 1 (v3.map encS)]⟩]) (ar (e rfl rfl) (.d (.d .nil)) (ar (e rfl rfl) (.d .nil) (ar (e rfl rfl) (.d .nil) .nil))) rfl) rfl rfl rfl rfl ?_
    refine sy _ (zas rfl (e rfl rfl)) rfl rfl ?_
    refine s_end ?_
    refine v_seq ?_
    refine v_reg ?_
    refine sy _ (zmv rfl (e rfl rfl)) rfl rfl ?_
    refine sy _ (zmv rfl (e rfl rfl)) rfl rfl ?_
    obtain ⟨v4, ev4⟩ : ∃ v : List ByteArray, v = n_impl_Outside v3 x2 := ⟨_, rfl⟩
    replace hr := bv_step ev4 hr
    have hfv4 : fitL fitS v4 := by rw [ev4]; exact (fitx_n_impl_Outside v3 x2 hfv3 hfx2)
    refine sd (.t ⟨false, [.d (.sl 1 (v4.map encS))]⟩) (zcd (.t ⟨false, [.d (.sl 1 (v4.map encS))]⟩) rfl (by rw [ev4]; exact (tr_n_impl_Outside v3 x2 hfv3 hfx2) : Tr Tryz.prog 29 _ [⟨false, [.sl 1 (v4.map encS)]⟩]) (ar (e rfl rfl) (.d .nil) (ar (e rfl rfl) (.d .nil) .nil)) rfl) rfl rfl rfl rfl ?_
    have hB2 := (hfv4).1
    refine sy (.t ⟨false, [.d (dI ((v4).length : Int))]⟩) (zlm tabOk rfl rfl (e rfl rfl) .d) rfl rfl ?_
    refine sy (.t ⟨false, [.d (dB (decide ((0) < (((v4).length : Int)))))]⟩) (y_bin rfl (e rfl rfl) (ec rfl) (fun _ => b_gtr) rfl) rfl rfl ?_
    refine sy _ (zmv rfl (e rfl rfl)) rfl rfl ?_
    rcases Bool.eq_false_or_eq_true (decide ((0) < (((v4).length : Int)))) with hg2 | hg2
    · replace hr := bf_t hg2 hr
      have hg2p := dec_t hg2
      refine gs rfl rfl rfl (eg rfl rfl) hg2 rfl ?_
      refine gs rfl rfl rfl (eg rfl rfl) hg2 rfl ?_
      refine gs rfl rfl rfl (eg rfl rfl) hg2 rfl ?_
      refine gs rfl rfl rfl (eg rfl rfl) hg2 rfl ?_
      refine gs rfl rfl rfl (eg rfl rfl) hg2 rfl ?_
      refine gs rfl rfl rfl (eg rfl rfl) hg2 rfl ?_
      refine sy (.t ⟨false, [.d (dB (true))]⟩) (zpt rfl (e rfl rfl) hg2 (ec rfl)) rfl rfl ?_
      refine s_end ?_
      refine v_cT (e rfl rfl) rfl ?_
      refine v_seq ?_
      refine v_reg ?_
      refine sy _ (zmv rfl (e rfl rfl)) rfl rfl ?_
      refine sy _ (zas rfl (e rfl rfl)) rfl rfl ?_
      refine sy _ (zas rfl (ec rfl)) rfl rfl ?_
      refine s_end ?_
      refine v_ret ?_
      subst hr
      exact post_ret (rv (.tmp (eg rfl rfl)) rfl (.lf .nil) rfl (rv (.tmp (eg rfl rfl)) rfl (.lf .nil) rfl .nil)) (.ro (.ro (.ro .nil))) rfl
    replace hr := bf_f hg2 hr
    have hg2p := dec_f hg2
    refine gr rfl rfl rfl (eg rfl rfl) hg2 ?_
    refine sy (.t ⟨true, [.d (dI (a0.Cap)), .d (.sl 6 (a0.L.map Entry.cells))]⟩) (zlv tabOk rfl (e rfl rfl) rfl rfl rfl) rfl rfl ?_
    refine gr rfl rfl rfl (eg rfl rfl) hg2 ?_
    refine sy _ (zmv rfl (e rfl rfl)) rfl rfl ?_
    refine gr rfl rfl rfl (eg rfl rfl) hg2 ?_
    refine sy _ (zmv rfl (e rfl rfl)) rfl rfl ?_
    refine gr rfl rfl rfl (eg rfl rfl) hg2 ?_
    obtain ⟨v5, ev5⟩ : ∃ v : List Int, v = n_impl_AllAddrs a0 a1 v3 := ⟨_, rfl⟩
    replace hr := bv_step ev5 hr
    refine sd (.t ⟨false, [.d (.sl 1 (v5.map encI))]⟩) (zcd (.t ⟨false, [.d (.sl 1 (v5.map encI))]⟩) rfl (by rw [ev5]; exact (tr_n_impl_AllAddrs a0 a1 v3 h0 hfv3) : Tr Tryz.prog 28 _ [⟨false, [.sl 1 (v5.map encI)]⟩]) (ar (e rfl rfl) (.d (.d .nil)) (ar (e rfl rfl) (.d .nil) (ar (e rfl rfl) (.d .nil) .nil))) rfl) rfl rfl rfl rfl ?_
    refine gr rfl rfl rfl (eg rfl rfl) hg2 ?_
    refine sy (.t ⟨false, [.d (dI ((v5).length : Int))]⟩) (zlm tabOk rfl rfl (e rfl rfl) .d) rfl rfl ?_
    refine gr rfl rfl rfl (eg rfl rfl) hg2 ?_
    refine sy (.t ⟨false, [.d (dB (decide ((0) < (((v5).length : Int)))))]⟩) (y_bin rfl (e rfl rfl) (ec rfl) (fun _ => b_gtr) rfl) rfl rfl ?_
    refine sy (.t ⟨false, [.d (dB (decide ((0) < (((v5).length : Int)))))]⟩) (zpf rfl (e rfl rfl) hg2 (e rfl rfl)) rfl rfl ?_
    refine s_end ?_
    refine v_cond (e rfl rfl) (fun hb3 => ?_) fun hb3 => ?_
    · replace hr := bf_t hb3 hr
      have hb3p := dec_t hb3
      refine v_seq ?_
      refine v_reg ?_
      refine sy _ (zmv rfl (e rfl rfl)) rfl rfl ?_
      refine sy _ (zas rfl (e rfl rfl)) rfl rfl ?_
      refine sy _ (zas rfl (ec rfl)) rfl rfl ?_
      refine s_end ?_
      refine v_ret ?_
      subst hr
      exact post_ret (rv (.tmp (eg rfl rfl)) rfl (.lf .nil) rfl (rv (.tmp (eg rfl rfl)) rfl (.lf .nil) rfl .nil)) (.ro (.ro (.ro .nil))) rfl
    replace hr := bf_f hb3 hr
    have hb3p := dec_f hb3
    refine v_skip ?_
    refine blk_norm ?_
    refine v_reg ?_
    refine sy (.t ⟨false, [.d (dI (z14 + 1 : Int))]⟩) (y_bin rfl (e rfl rfl) (ec rfl) (fun _ => b_addn (by omega) (by omega)) rfl) rfl rfl ?_
    refine sy _ (zmv rfl (e rfl rfl)) rfl rfl ?_
    refine s_end ?_
    exact lp_next (n, z14 + 1) ⟨hr, by (try simp only [List.length_append, List.length_cons, List.length_nil, List.length_set]); first | done | omega, by (try simp only [List.length_append, List.length_cons, List.length_nil, List.length_set]); first | done | omega⟩ (Nat.lt_succ_self _) ⟨rfl, rfl, rfl, rfl, rfl, trivial⟩ ⟨rfl, trivial⟩ rfl
  replace hr := bf_f hb1 hr
  have hb1p := dec_f hb1
  refine v_exit ?_
  refine then_exit ?_
  refine loop_exit ?_
  refine blk_hit ?_
  refine v_seq ?_
  refine v_reg ?_
  refine sy _ (zas rfl (ec rfl)) rfl rfl ?_
  refine sy _ (zas rfl (ec rfl)) rfl rfl ?_
  refine s_end ?_
  refine v_ret ?_
  subst hr
  exact post_ret (rv (.tmp (eg rfl rfl)) rfl (.lf .nil) rfl (rv (.tmp (eg rfl rfl)) rfl (.lf .nil) rfl .nil)) (.ro (.ro (.ro .nil))) rfl
set_option maxHeartbeats 4000000 in
theorem fitx_n_impl_Nearest (a0 : Cache) (a1 : Int) (a2 : ByteArray) (h0 : Cache.Fit a0) (h2 : fitS a2) : fitS (n_impl_Nearest a0 a1 a2).1 := by
  obtain ⟨r, hr⟩ : ∃ r, n_impl_Nearest a0 a1 a2 = r := ⟨_, rfl⟩
  rw [hr]
  rw [n_impl_Nearest] at hr
  obtain ⟨v1, ev1⟩ : ∃ v : List ByteArray, v = n_impl_Above a2 := ⟨_, rfl⟩
  replace hr := bv_step ev1 hr
  have hfv1 : fitL fitS v1 := by rw [ev1]; exact (fitx_n_impl_Above a2 h2)
  have hB1 : (v1).length ≤ _ := (hfv1).1
  refine fx_lp (fun (q : Nat × Nat) => n_impl_NearestL1 a0 a1 v1 q.1 q.2 = r ∧ (q.2 ≤ (v1).length) ∧ (q.2 + q.1 = (v1).length + 1)) (fun q => q.1) ((v1).length + 1, (0 : Nat)) ⟨hr, by (try dsimp only); (try simp only [List.length_nil, List.length_cons, List.length_replicate]); first | done | omega | exact Nat.zero_le _, by (try dsimp only); (try simp only [List.length_nil, List.length_cons, List.length_replicate]); first | done | omega | exact Nat.zero_le _⟩ (fun q hq hn1 => ?_)
  obtain ⟨n, z14⟩ := q
  obtain ⟨hr, hi1x0, hi1x1⟩ := hq
  dsimp only at hr hi1x0 hi1x1
  rcases n with _ | n
  · exfalso; omega
  rw [n_impl_NearestL1] at hr
  rcases Bool.eq_false_or_eq_true (decide (((z14 : Int)) < (((v1).length : Int)))) with hb1 | hb1
  · replace hr := bf_t hb1 hr
    have hb1p := dec_t hb1
    obtain ⟨x2, hx2⟩ : ∃ x, (v1)[z14]? = some x := some_of_lt (by omega)
    replace hr := at_step hx2 hr
    have hfx2 := hfv1.2 _ (List.mem_of_getElem? hx2)
    obtain ⟨v3, ev3⟩ : ∃ v : List ByteArray, v = n_impl_ServersKnown a0 a1 x2 := ⟨_, rfl⟩
    replace hr := bv_step ev3 hr
    have hfv3 : fitL fitS v3 := by rw [ev3]; exact (fitx_n_impl_ServersKnown a0 a1 x2 h0 hfx2)
    obtain ⟨v4, ev4⟩ : ∃ v : List ByteArray, v = n_impl_Outside v3 x2 := ⟨_, rfl⟩
    replace hr := bv_step ev4 hr
    have hfv4 : fitL fitS v4 := by rw [ev4]; exact (fitx_n_impl_Outside v3 x2 hfv3 hfx2)
    have hB2 : (v4).length ≤ _ := (hfv4).1
    rcases Bool.eq_false_or_eq_true (decide ((0) < (((v4).length : Int)))) with hg2 | hg2
    · replace hr := bf_t hg2 hr
      have hg2p := dec_t hg2
      subst hr
      exact hfx2
    replace hr := bf_f hg2 hr
    have hg2p := dec_f hg2
    obtain ⟨v5, ev5⟩ : ∃ v : List Int, v = n_impl_AllAddrs a0 a1 v3 := ⟨_, rfl⟩
    replace hr := bv_step ev5 hr
    rcases Bool.eq_false_or_eq_true (decide ((0) < (((v5).length : Int)))) with hb3 | hb3
    · replace hr := bf_t hb3 hr
      have hb3p := dec_t hb3
      subst hr
      exact hfx2
    replace hr := bf_f hb3 hr
    have hb3p := dec_f hb3
    exact hn1 (n, z14 + 1) (Nat.lt_succ_self _) ⟨hr, by (try simp only [List.length_append, List.length_cons, List.length_nil, List.length_set]); first | done | omega, by (try simp only [List.length_append, List.length_cons, List.length_nil, List.length_set]); first | done | omega⟩
  replace hr := bf_f hb1 hr
  have hb1p := dec_f hb1
  subst hr
  exact (fitS_lit (⟨#[]⟩ : ByteArray) (Nat.le_of_ble_eq_true rfl))
def n_spec_StartAt (a0 : Cache) (a1 : Int) (a2 : List Int) (a3 : ByteArray) : ByteArray × (List Int) × (List ByteArray) := bindv (n_spec_Nearest a0 a1 a3) (fun v1 => cond (!(v1.2)) (bindv (n_spec_Uniq a2) (fun v2 => ((⟨#[]⟩ : ByteArray), v2, ([] : List ByteArray)))) (bindv (n_spec_ServersKnown a0 a1 v1.1) (fun v3 => bindv (n_spec_AllAddrs a0 a1 v3) (fun v4 => bindv (n_spec_Lacking a0 a1 v3) (fun v5 => bindv (n_spec_Outside v5 v1.1) (fun v6 => (v1.1, v4, v6)))))))
set_option maxHeartbeats 4000000 in
set_option maxRecDepth 20000 in
theorem tr_n_spec_StartAt (a0 : Cache) (a1 : Int) (a2 : List Int) (a3 : ByteArray) (h0 : Cache.Fit a0) (h2 : fitL fitU a2) (h3 : fitS a3) : Tr Tryz.prog 5 [.ro ⟨true, [dI (a0.Cap), .sl 6 (a0.L.map Entry.cells)]⟩, .ro ⟨false, [dI (a1)]⟩, .ro ⟨false, [.sl 1 (a2.map encI)]⟩, .ro ⟨false, [dS (a3)]⟩] [⟨false, [dS ((n_spec_StartAt a0 a1 a2 a3).1)]⟩, ⟨false, [.sl 1 (((n_spec_StartAt a0 a1 a2 a3).2.1).map encI)]⟩, ⟨false, [.sl 1 (((n_spec_StartAt a0 a1 a2 a3).2.2).map encS)]⟩] := by
  obtain ⟨r, hr⟩ : ∃ r, n_spec_StartAt a0 a1 a2 a3 = r := ⟨_, rfl⟩
  rw [hr]
  rw [n_spec_StartAt] at hr
  refine tr_go tabOk Tryz.func5 rfl rfl rfl rfl rfl (ov := [(0, .t ⟨true, [.d (dI (a0.Cap)), .d (.sl 6 (a0.L.map Entry.cells))]⟩), (1, .t ⟨false, [.d (dI (a1))]⟩), (2, .t ⟨false, [.d (.sl 1 (a2.map encI))]⟩), (3, .t ⟨false, [.d (dS (a3))]⟩)]) (hv := []) rfl rfl ?_
  refine v_seq ?_
  refine v_reg ?_
  refine sr 0 (.t ⟨false, [.vp 0 0]⟩) (.var [.d (dI (a0.Cap)), .d (.sl 6 (a0.L.map Entry.cells))]) (zbx rfl (e rfl rfl) rfl rfl rfl) rfl rfl ?_
  refine sy _ (zas rfl (ec rfl)) rfl rfl ?_
  refine sy _ (zas rfl (en 1)) rfl rfl ?_
  refine sy _ (zas rfl (en 1)) rfl rfl ?_
  refine s_end ?_
  refine v_seq ?_
  refine v_reg ?_
  refine sy (.t ⟨true, [.d (dI (a0.Cap)), .d (.sl 6 (a0.L.map Entry.cells))]⟩) (zlv tabOk rfl (e rfl rfl) rfl rfl rfl) rfl rfl ?_
  refine sy _ (zmv rfl (e rfl rfl)) rfl rfl ?_
  refine sy _ (zmv rfl (e rfl rfl)) rfl rfl ?_
  obtain ⟨v1, ev1⟩ : ∃ v : ByteArray × Bool, v = n_spec_Nearest a0 a1 a3 := ⟨_, rfl⟩
  replace hr := bv_step ev1 hr
  have hfv1p1 : fitS v1.1 := by rw [ev1]; exact (fitx_n_spec_Nearest a0 a1 a3 h0 h3)
  refine sd (.tu [⟨false, [.d (dS (v1.1))]⟩, ⟨false, [.d (dB (v1.2))]⟩]) (zcd (.tu [⟨false, [.d (dS (v1.1))]⟩, ⟨false, [.d (dB (v1.2))]⟩]) rfl (by rw [ev1]; exact (tr_n_spec_Nearest a0 a1 a3 h0 h3) : Tr Tryz.prog 18 _ [⟨false, [dS (v1.1)]⟩, ⟨false, [dB (v1.2)]⟩]) (ar (e rfl rfl) (.d (.d .nil)) (ar (e rfl rfl) (.d .nil) (ar (e rfl rfl) (.d .nil) .nil))) rfl) rfl rfl rfl rfl ?_
  refine sy (.tu [⟨false, [.d (dS (v1.1))]⟩, ⟨false, [.d (dB (v1.2))]⟩]) (zmvt (.inl rfl) (eg rfl rfl)) rfl rfl ?_
  refine sy (.t ⟨false, [.d (dS (v1.1))]⟩) (y_extract rfl rfl (eg rfl rfl) rfl) rfl rfl ?_
  refine sy (.t ⟨false, [.d (dB (v1.2))]⟩) (y_extract rfl rfl (eg rfl rfl) rfl) rfl rfl ?_
  refine sy _ (zas rfl (e rfl rfl)) rfl rfl ?_
  refine sy _ (zas rfl (e rfl rfl)) rfl rfl ?_
  refine s_end ?_
  refine v_seq ?_
  refine v_seq ?_
  refine v_reg ?_
  refine sy _ (zmv rfl (e rfl rfl)) rfl rfl ?_
  refine sy (.t ⟨false, [.d (dB (!(v1.2)))]⟩) (y_un rfl (e rfl rfl) (fun _ => u_not) rfl) rfl rfl ?_
  refine s_end ?_
  refine v_cond (e rfl rfl) (fun hb1 => ?_) fun hb1 => ?_
  · replace hr := bf_t hb1 hr
    have hn2 := not_t hb1
    refine v_seq ?_
    refine v_reg ?_
    refine sy _ (zmv rfl (e rfl rfl)) rfl rfl ?_
    have hB1 := (h2).1
    obtain ⟨v2, ev2⟩ : ∃ v : List Int, v = n_spec_Uniq a2 := ⟨_, rfl⟩
    replace hr := bv_step ev2 hr
    refine sd (.t ⟨false, [.sr 1 1 0 ((v2.map encI).length) ((v2.map encI).length)]⟩) (zcall 1 (.t ⟨false, [.sr 1 1 0 ((v2.map encI).length) ((v2.map encI).length)]⟩) [(1, .row 1 (v2.map encI) true 1 0)] rfl (by rw [ev2]; exact (tr_n_spec_Uniq a2 ⟨by (try simp only [List.length_append, List.length_cons, List.length_nil]); omega, trivial⟩) : Tr Tryz.prog 19 _ [⟨false, [.sl 1 (v2.map encI)]⟩]) (ar (e rfl rfl) (.d .nil) .nil) rfl rfl rfl) rfl rfl rfl rfl ?_
    refine sbk 2 (.t ⟨false, [.sr 2 1 0 ((([] : List ByteArray).map encS).length) ((([] : List ByteArray).map encS).length)]⟩) (.row 1 (([] : List ByteArray).map encS) true 1 0) (zbu tabOk rfl rfl rfl rfl .nil rfl rfl) rfl rfl ?_
    refine sy _ (zas rfl (ec rfl)) rfl rfl ?_
    refine sy _ (zas rfl (e rfl rfl)) rfl rfl ?_
    refine sy _ (zas rfl (e rfl rfl)) rfl rfl ?_
    refine s_end ?_
    refine v_ret ?_
    subst hr
    exact post_ret (rv (.tmp (eg rfl rfl)) rfl (.lf .nil) rfl (rv (.tmp (eg rfl rfl)) rfl (.sr rfl le_all take_all .nil) rfl (rv (.tmp (eg rfl rfl)) rfl (.sr rfl le_all take_all .nil) rfl .nil))) (.ro (.ro (.ro (.ro .nil)))) rfl
  replace hr := bf_f hb1 hr
  have hn3 := not_f hb1
  refine v_skip ?_
  refine v_seq ?_
  refine v_reg ?_
  refine sy (.t ⟨true, [.d (dI (a0.Cap)), .d (.sl 6 (a0.L.map Entry.cells))]⟩) (zlv tabOk rfl (e rfl rfl) rfl rfl rfl) rfl rfl ?_
  refine sy _ (zmv rfl (e rfl rfl)) rfl rfl ?_
  refine sy _ (zmv rfl (e rfl rfl)) rfl rfl ?_
  obtain ⟨v3, ev3⟩ : ∃ v : List ByteArray, v = n_spec_ServersKnown a0 a1 v1.1 := ⟨_, rfl⟩
  replace hr := bv_step ev3 hr
  have hfv3 : fitL fitS v3 := by rw [ev3]; exact (fitx_n_spec_ServersKnown a0 a1 v1.1 h0 hfv1p1)
  refine sd (.t ⟨false, [.sr 3 1 0 ((v3.map encS).length) ((v3.map encS).length)]⟩) (zcall 3 (.t ⟨false, [.sr 3 1 0 ((v3.map encS).length) ((v3.map encS).length)]⟩) [(3, .row 1 (v3.map encS) true 1 0)] rfl (by rw [ev3]; exact (tr_n_spec_ServersKnown a0 a1 v1.1 h0 hfv1p1) : Tr Tryz.prog 20 _ [⟨false, [.sl 1 (v3.map encS)]⟩]) (ar (e rfl rfl) (.d (.d .nil)) (ar (e rfl rfl) (.d .nil) (ar (e rfl rfl) (.d .nil) .nil))) rfl rfl rfl) rfl rfl rfl rfl ?_
  refine sy _ (zas rfl (e rfl rfl)) rfl rfl ?_
  refine s_end ?_
  refine v_seq ?_
  obtain ⟨v4, ev4⟩ : ∃ v : List Int, v = n_spec_AllAddrs a0 a1 v3 := ⟨_, rfl⟩
  replace hr := bv_step ev4 hr
  obtain ⟨v5, ev5⟩ : ∃ v : List ByteArray, v = n_spec_Lacking a0 a1 v3 := ⟨_, rfl⟩
  replace hr := bv_step ev5 hr
  have hfv5 : fitL fitS v5 := by rw [ev5]; exact (fitx_n_spec_Lacking a0 a1 v3 h0 hfv3)
  obtain ⟨v6, ev6⟩ : ∃ v : List ByteArray, v = n_spec_Outside v5 v1.1 := ⟨_, rfl⟩
  replace hr := bv_step ev6 hr
  have hfv6 : fitL fitS v6 := by rw [ev6]; exact (fitx_n_spec_Outside v5 v1.1 hfv5 hfv1p1)
  refine v_drw2 [⟨.t ⟨false, [.d (dS (v1.1))]⟩, [], [11], [], false⟩, ⟨.t ⟨true, [.d (dI (a0.Cap)), .d (.sl 6 (a0.L.map Entry.cells))]⟩, [], [4], [0], false⟩, ⟨.t ⟨false, [.d (dI (a1))]⟩, [], [1], [], false⟩, ⟨.t ⟨false, [.sr 3 1 0 ((v3.map encS).length) ((v3.map encS).length)]⟩, [], [13], [], false⟩, ⟨.t ⟨false, [.sr 4 1 0 ((v4.map encI).length) ((v4.map encI).length)]⟩, [(4, .row 1 (v4.map encI) true 1 0)], [31, 32, 33], [3], false⟩, ⟨.t ⟨true, [.d (dI (a0.Cap)), .d (.sl 6 (a0.L.map Entry.cells))]⟩, [], [4], [0], false⟩, ⟨.t ⟨false, [.d (dI (a1))]⟩, [], [1], [], false⟩, ⟨.t ⟨false, [.sr 3 1 0 ((v3.map encS).length) ((v3.map encS).length)]⟩, [], [13], [], false⟩, ⟨.t ⟨false, [.sr 5 1 0 ((v5.map encS).length) ((v5.map encS).length)]⟩, [(5, .row 1 (v5.map encS) true 1 0)], [35, 36, 37], [3], false⟩, ⟨.t ⟨false, [.d (dS (v1.1))]⟩, [], [11], [], false⟩, ⟨.t ⟨false, [.sr 6 1 0 ((v6.map encS).length) ((v6.map encS).length)]⟩, [(6, .row 1 (v6.map encS) true 1 0)], [38, 39], [5], false⟩, ⟨.t ⟨false, [.d (dS (v1.1))]⟩, [], [30], [], false⟩, ⟨.t ⟨false, [.sr 4 1 0 ((v4.map encI).length) ((v4.map encI).length)]⟩, [], [34], [], false⟩, ⟨.t ⟨false, [.sr 6 1 0 ((v6.map encS).length) ((v6.map encS).length)]⟩, [], [40], [], false⟩] mixed (.c rfl (.c rfl (.c rfl (.c rfl (.c rfl (.c rfl (.c rfl (.c rfl (.c rfl (.c rfl (.c rfl (.c rfl (.c rfl (.c rfl .nil)))))))))))))) (.s rfl (.s rfl (.s rfl (.s rfl (.g rfl (.s rfl (.s rfl (.s rfl (.g rfl (.s rfl (.g rfl (.s rfl (.s rfl (.s rfl .nil)))))))))))))) (by kernel_rfl) (by kernel_rfl) ⟨gN rfl rfl (fun t h A => by exact dy (zmv rfl (A.e rfl rfl rfl))), gN rfl rfl (fun t h A => by exact dy (zlv tabOk rfl (A.e rfl rfl rfl) (A.h rfl rfl) rfl rfl)), gN rfl rfl (fun t h A => by exact dy (zmv rfl (A.e rfl rfl rfl))), gN rfl rfl (fun t h A => by exact dy (zmv rfl (A.e rfl rfl rfl))), gN rfl rfl (fun t h A => by exact zcallA 4 (.t ⟨false, [.sr 4 1 0 ((v4.map encI).length) ((v4.map encI).length)]⟩) [(4, .row 1 (v4.map encI) true 1 0)] rfl (by rw [ev4]; exact (tr_n_spec_AllAddrs a0 a1 v3 h0 hfv3) : Tr Tryz.prog 21 _ [⟨false, [.sl 1 (v4.map encI)]⟩]) (ar (A.e rfl rfl rfl) (.d (.d .nil)) (ar (A.e rfl rfl rfl) (.d .nil) (ar (A.e rfl rfl rfl) (.sr (A.h rfl rfl) le_all take_all .nil) .nil))) rfl (A.free rfl) rfl rfl), gN rfl rfl (fun t h A => by exact dy (zlv tabOk rfl (A.e rfl rfl rfl) (A.h rfl rfl) rfl rfl)), gN rfl rfl (fun t h A => by exact dy (zmv rfl (A.e rfl rfl rfl))), gN rfl rfl (fun t h A => by exact dy (zmv rfl (A.e rfl rfl rfl))), gN rfl rfl (fun t h A => by exact zcallA 5 (.t ⟨false, [.sr 5 1 0 ((v5.map encS).length) ((v5.map encS).length)]⟩) [(5, .row 1 (v5.map encS) true 1 0)] rfl (by rw [ev5]; exact (tr_n_spec_Lacking a0 a1 v3 h0 hfv3) : Tr Tryz.prog 23 _ [⟨false, [.sl 1 (v5.map encS)]⟩]) (ar (A.e rfl rfl rfl) (.d (.d .nil)) (ar (A.e rfl rfl rfl) (.d .nil) (ar (A.e rfl rfl rfl) (.sr (A.h rfl rfl) le_all take_all .nil) .nil))) rfl (A.free rfl) rfl rfl), gN rfl rfl (fun t h A => by exact dy (zmv rfl (A.e rfl rfl rfl))), gN rfl rfl (fun t h A => by exact zcallA 6 (.t ⟨false, [.sr 6 1 0 ((v6.map encS).length) ((v6.map encS).length)]⟩) [(6, .row 1 (v6.map encS) true 1 0)] rfl (by rw [ev6]; exact (tr_n_spec_Outside v5 v1.1 hfv5 hfv1p1) : Tr Tryz.prog 22 _ [⟨false, [.sl 1 (v6.map encS)]⟩]) (ar (A.e rfl rfl rfl) (.sr (A.h rfl rfl) le_all take_all .nil) (ar (A.e rfl rfl rfl) (.d .nil) .nil)) rfl (A.free rfl) rfl rfl), gN rfl rfl (fun t h A => by exact dy (zas rfl (A.e rfl rfl rfl))), gN rfl rfl (fun t h A => by exact dy (zas rfl (A.e rfl rfl rfl))), gN rfl rfl (fun t h A => by exact dy (zas rfl (A.e rfl rfl rfl))), trivial⟩ ?_
  refine s_end ?_
  refine v_ret ?_
  subst hr
  exact post_ret (rv (.tmp (eg rfl rfl)) rfl (.lf .nil) rfl (rv (.tmp (eg rfl rfl)) rfl (.sr rfl le_all take_all .nil) rfl (rv (.tmp (eg rfl rfl)) rfl (.sr rfl le_all take_all .nil) rfl .nil))) (.ro (.ro (.ro (.ro .nil)))) rfl
def n_impl_StartAt (a0 : Cache) (a1 : Int) (a2 : List Int) (a3 : ByteArray) : ByteArray × (List Int) × (List ByteArray) := bindv (n_impl_Nearest a0 a1 a3) (fun v1 => cond (!(v1.2)) (bindv (n_impl_Uniq a2) (fun v2 => ((⟨#[]⟩ : ByteArray), v2, []))) (bindv (n_impl_ServersKnown a0 a1 v1.1) (fun v3 => bindv (n_impl_AllAddrs a0 a1 v3) (fun v4 => bindv (n_impl_Lacking a0 a1 v3) (fun v5 => bindv (n_impl_Outside v5 v1.1) (fun v6 => (v1.1, v4, v6)))))))
set_option maxHeartbeats 4000000 in
set_option maxRecDepth 20000 in
theorem tr_n_impl_StartAt (a0 : Cache) (a1 : Int) (a2 : List Int) (a3 : ByteArray) (h0 : Cache.Fit a0) (h2 : fitL fitU a2) (h3 : fitS a3) : Tr Tryz.prog 8 [.ro ⟨true, [dI (a0.Cap), .sl 6 (a0.L.map Entry.cells)]⟩, .ro ⟨false, [dI (a1)]⟩, .ro ⟨false, [.sl 1 (a2.map encI)]⟩, .ro ⟨false, [dS (a3)]⟩] [⟨false, [dS ((n_impl_StartAt a0 a1 a2 a3).1)]⟩, ⟨false, [.sl 1 (((n_impl_StartAt a0 a1 a2 a3).2.1).map encI)]⟩, ⟨false, [.sl 1 (((n_impl_StartAt a0 a1 a2 a3).2.2).map encS)]⟩] := by
  obtain ⟨r, hr⟩ : ∃ r, n_impl_StartAt a0 a1 a2 a3 = r := ⟨_, rfl⟩
  rw [hr]
  rw [n_impl_StartAt] at hr
  refine tr_go tabOk Tryz.func8 rfl rfl rfl rfl rfl (ov := [(0, .t ⟨true, [.d (dI (a0.Cap)), .d (.sl 6 (a0.L.map Entry.cells))]⟩), (1, .t ⟨false, [.d (dI (a1))]⟩), (2, .t ⟨false, [.d (.sl 1 (a2.map encI))]⟩), (3, .t ⟨false, [.d (dS (a3))]⟩)]) (hv := []) rfl rfl ?_
  refine v_seq ?_
  refine v_reg ?_
  refine sr 0 (.t ⟨false, [.vp 0 0]⟩) (.var [.d (dI (a0.Cap)), .d (.sl 6 (a0.L.map Entry.cells))]) (zbx rfl (e rfl rfl) rfl rfl rfl) rfl rfl ?_
  refine sy _ (zas rfl (ec rfl)) rfl rfl ?_
  refine sy _ (zas rfl (en 1)) rfl rfl ?_
  refine sy _ (zas rfl (en 1)) rfl rfl ?_
  refine s_end ?_
  refine v_seq ?_
  refine v_reg ?_
  refine sy (.t ⟨true, [.d (dI (a0.Cap)), .d (.sl 6 (a0.L.map Entry.cells))]⟩) (zlv tabOk rfl (e rfl rfl) rfl rfl rfl) rfl rfl ?_
  refine sy _ (zmv rfl (e rfl rfl)) rfl rfl ?_
  refine sy _ (zmv rfl (e rfl rfl)) rfl rfl ?_
  obtain ⟨v1, ev1⟩ : ∃ v : ByteArray × Bool, v = n_impl_Nearest a0 a1 a3 := ⟨_, rfl⟩
  replace hr := bv_step ev1 hr
  have hfv1p1 : fitS v1.1 := by rw [ev1]; exact (fitx_n_impl_Nearest a0 a1 a3 h0 h3)
  refine sd (.tu [⟨false, [.d (dS (v1.1))]⟩, ⟨false, [.d (dB (v1.2))]⟩]) (zcd (.tu [⟨false, [.d (dS (v1.1))]⟩, ⟨false, [.d (dB (v1.2))]⟩]) rfl (by rw [ev1]; exact (tr_n_impl_Nearest a0 a1 a3 h0 h3) : Tr Tryz.prog 25 _ [⟨false, [dS (v1.1)]⟩, ⟨false, [dB (v1.2)]⟩]) (ar (e rfl rfl) (.d (.d .nil)) (ar (e rfl rfl) (.d .nil) (ar (e rfl rfl) (.d .nil) .nil))) rfl) rfl rfl rfl rfl ?_
  refine sy (.tu [⟨false, [.d (dS (v1.1))]⟩, ⟨false, [.d (dB (v1.2))]⟩]) (zmvt (.inl rfl) (eg rfl rfl)) rfl rfl ?_
  refine sy (.t ⟨false, [.d (dS (v1.1))]⟩) (y_extract rfl rfl (eg rfl rfl) rfl) rfl rfl ?_
  refine sy (.t ⟨false, [.d (dB (v1.2))]⟩) (y_extract rfl rfl (eg rfl rfl) rfl) rfl rfl ?_
  refine sy _ (zas rfl (e rfl rfl)) rfl rfl ?_
  refine sy _ (zas rfl (e rfl rfl)) rfl rfl ?_
  refine s_end ?_
  refine v_seq ?_
  refine v_seq ?_
  refine v_reg ?_
  refine sy _ (zmv rfl (e rfl rfl)) rfl rfl ?_
  refine sy (.t ⟨false, [.d (dB (!(v1.2)))]⟩) (y_un rfl (e rfl rfl) (fun _ => u_not) rfl) rfl rfl ?_
  refine s_end ?_
  refine v_cond (e rfl rfl) (fun hb1 => ?_) fun hb1 => ?_
  · replace hr := bf_t hb1 hr
    have hn2 := not_t hb1
    refine v_seq ?_
    refine v_reg ?_
    refine sy _ (zmv rfl (e rfl rfl)) rfl rfl ?_
    have hB1 := (h2).1
    obtain ⟨v2, ev2⟩ : ∃ v : List Int, v = n_impl_Uniq a2 := ⟨_, rfl⟩
    replace hr := bv_step ev2 hr
    refine sd (.t ⟨false, [.sr 1 1 0 ((v2.map encI).length) ((v2.map encI).length)]⟩) (zcall 1 (.t ⟨false, [.sr 1 1 0 ((v2.map encI).length) ((v2.map encI).length)]⟩) [(1, .row 1 (v2.map encI) true 1 0)] rfl (by rw [ev2]; exact (tr_n_impl_Uniq a2 ⟨by (try simp only [List.length_append, List.length_cons, List.length_nil]); omega, trivial⟩) : Tr Tryz.prog 26 _ [⟨false, [.sl 1 (v2.map encI)]⟩]) (ar (e rfl rfl) (.d .nil) .nil) rfl rfl rfl) rfl rfl rfl rfl ?_
    refine sy _ (zas rfl (ec rfl)) rfl rfl ?_
    refine sy _ (zas rfl (e rfl rfl)) rfl rfl ?_
    refine sy _ (zas rfl (en 1)) rfl rfl ?_
    refine s_end ?_
    refine v_ret ?_
    subst hr
    exact post_ret (rv (.tmp (eg rfl rfl)) rfl (.lf .nil) rfl (rv (.tmp (eg rfl rfl)) rfl (.sr rfl le_all take_all .nil) rfl (rv (.tmp (eg rfl rfl)) rfl (.nl .nil) rfl .nil))) (.ro (.ro (.ro (.ro .nil)))) rfl
  replace hr := bf_f hb1 hr
  have hn3 := not_f hb1
  refine v_skip ?_
  refine v_seq ?_
  refine v_reg ?_
  refine sy (.t ⟨true, [.d (dI (a0.Cap)), .d (.sl 6 (a0.L.map Entry.cells))]⟩) (zlv tabOk rfl (e rfl rfl) rfl rfl rfl) rfl rfl ?_
  refine sy _ (zmv rfl (e rfl rfl)) rfl rfl ?_
  refine sy _ (zmv rfl (e rfl rfl)) rfl rfl ?_
  obtain ⟨v3, ev3⟩ : ∃ v : List ByteArray, v = n_impl_ServersKnown a0 a1 v1.1 := ⟨_, rfl⟩
  replace hr := bv_step ev3 hr
  have hfv3 : fitL fitS v3 := by rw [ev3]; exact (fitx_n_impl_ServersKnown a0 a1 v1.1 h0 hfv1p1)
  refine sd (.t ⟨false, [.sr 2 1 0 ((v3.map encS).length) ((v3.map encS).length)]⟩) (zcall 2 (.t ⟨false, [.sr 2 1 0 ((v3.map encS).length) ((v3.map encS).length)]⟩) [(2, .row 1 (v3.map encS) true 1 0)] rfl (by rw [ev3]; exact (tr_n_impl_ServersKnown a0 a1 v1.1 h0 hfv1p1) : Tr Tryz.prog 27 _ [⟨false, [.sl 1 (v3.map encS)]⟩]) (ar (e rfl rfl) (.d (.d .nil)) (ar (e rfl rfl) (.d .nil) (ar (e rfl rfl) (.d .nil) .nil))) rfl rfl rfl) rfl rfl rfl rfl ?_
  refine sy _ (zas rfl (e rfl rfl)) rfl rfl ?_
  refine s_end ?_
  refine v_seq ?_
  obtain ⟨v4, ev4⟩ : ∃ v : List Int, v = n_impl_AllAddrs a0 a1 v3 := ⟨_, rfl⟩
  replace hr := bv_step ev4 hr
  obtain ⟨v5, ev5⟩ : ∃ v : List ByteArray, v = n_impl_Lacking a0 a1 v3 := ⟨_, rfl⟩
  replace hr := bv_step ev5 hr
  have hfv5 : fitL fitS v5 := by rw [ev5]; exact (fitx_n_impl_Lacking a0 a1 v3 h0 hfv3)
  obtain ⟨v6, ev6⟩ : ∃ v : List ByteArray, v = n_impl_Outside v5 v1.1 := ⟨_, rfl⟩
  replace hr := bv_step ev6 hr
  have hfv6 : fitL fitS v6 := by rw [ev6]; exact (fitx_n_impl_Outside v5 v1.1 hfv5 hfv1p1)
  refine v_drw2 [⟨.t ⟨false, [.d (dS (v1.1))]⟩, [], [11], [], false⟩, ⟨.t ⟨true, [.d (dI (a0.Cap)), .d (.sl 6 (a0.L.map Entry.cells))]⟩, [], [4], [0], false⟩, ⟨.t ⟨false, [.d (dI (a1))]⟩, [], [1], [], false⟩, ⟨.t ⟨false, [.sr 2 1 0 ((v3.map encS).length) ((v3.map encS).length)]⟩, [], [13], [], false⟩, ⟨.t ⟨false, [.sr 3 1 0 ((v4.map encI).length) ((v4.map encI).length)]⟩, [(3, .row 1 (v4.map encI) true 1 0)], [30, 31, 32], [2], false⟩, ⟨.t ⟨true, [.d (dI (a0.Cap)), .d (.sl 6 (a0.L.map Entry.cells))]⟩, [], [4], [0], false⟩, ⟨.t ⟨false, [.d (dI (a1))]⟩, [], [1], [], false⟩, ⟨.t ⟨false, [.sr 2 1 0 ((v3.map encS).length) ((v3.map encS).length)]⟩, [], [13], [], false⟩, ⟨.t ⟨false, [.sr 4 1 0 ((v5.map encS).length) ((v5.map encS).length)]⟩, [(4, .row 1 (v5.map encS) true 1 0)], [34, 35, 36], [2], false⟩, ⟨.t ⟨false, [.d (dS (v1.1))]⟩, [], [11], [], false⟩, ⟨.t ⟨false, [.sr 5 1 0 ((v6.map encS).length) ((v6.map encS).length)]⟩, [(5, .row 1 (v6.map encS) true 1 0)], [37, 38], [4], false⟩, ⟨.t ⟨false, [.d (dS (v1.1))]⟩, [], [29], [], false⟩, ⟨.t ⟨false, [.sr 3 1 0 ((v4.map encI).length) ((v4.map encI).length)]⟩, [], [33], [], false⟩, ⟨.t ⟨false, [.sr 5 1 0 ((v6.map encS).length) ((v6.map encS).length)]⟩, [], [39], [], false⟩] mixed (.c rfl (.c rfl (.c rfl (.c rfl (.c rfl (.c rfl (.c rfl (.c rfl (.c rfl (.c rfl (.c rfl (.c rfl (.c rfl (.c rfl .nil)))))))))))))) (.s rfl (.s rfl (.s rfl (.s rfl (.g rfl (.s rfl (.s rfl (.s rfl (.g rfl (.s rfl (.g rfl (.s rfl (.s rfl (.s rfl .nil)))))))))))))) (by kernel_rfl) (by kernel_rfl) ⟨gN rfl rfl (fun t h A => by exact dy (zmv rfl (A.e rfl rfl rfl))), gN rfl rfl (fun t h A => by exact dy (zlv tabOk rfl (A.e rfl rfl rfl) (A.h rfl rfl) rfl rfl)), gN rfl rfl (fun t h A => by exact dy (zmv rfl (A.e rfl rfl rfl))), gN rfl rfl (fun t h A => by exact dy (zmv rfl (A.e rfl rfl rfl))), gN rfl rfl (fun t h A => by exact zcallA 3 (.t ⟨false, [.sr 3 1 0 ((v4.map encI).length) ((v4.map encI).length)]⟩) [(3, .row 1 (v4.map encI) true 1 0)] rfl (by rw [ev4]; exact (tr_n_impl_AllAddrs a0 a1 v3 h0 hfv3) : Tr Tryz.prog 28 _ [⟨false, [.sl 1 (v4.map encI)]⟩]) (ar (A.e rfl rfl rfl) (.d (.d .nil)) (ar (A.e rfl rfl rfl) (.d .nil) (ar (A.e rfl rfl rfl) (.sr (A.h rfl rfl) le_all take_all .nil) .nil))) rfl (A.free rfl) rfl rfl), gN rfl rfl (fun t h A => by exact dy (zlv tabOk rfl (A.e rfl rfl rfl) (A.h rfl rfl) rfl rfl)), gN rfl rfl (fun t h A => by exact dy (zmv rfl (A.e rfl rfl rfl))), gN rfl rfl (fun t h A => by exact dy (zmv rfl (A.e rfl rfl rfl))), gN rfl rfl (fun t h A => by exact zcallA 4 (.t ⟨false, [.sr 4 1 0 ((v5.map encS).length) ((v5.map encS).length)]⟩) [(4, .row 1 (v5.map encS) true 1 0)] rfl (by rw [ev5]; exact (tr_n_impl_Lacking a0 a1 v3 h0 hfv3) : Tr Tryz.prog 30 _ [⟨false, [.sl 1 (v5.map encS)]⟩]) (ar (A.e rfl rfl rfl) (.d (.d .nil)) (ar (A.e rfl rfl rfl) (.d .nil) (ar (A.e rfl rfl rfl) (.sr (A.h rfl rfl) le_all take_all .nil) .nil))) rfl (A.free rfl) rfl rfl), gN rfl rfl (fun t h A => by exact dy (zmv rfl (A.e rfl rfl rfl))), gN rfl rfl (fun t h A => by exact zcallA 5 (.t ⟨false, [.sr 5 1 0 ((v6.map encS).length) ((v6.map encS).length)]⟩) [(5, .row 1 (v6.map encS) true 1 0)] rfl (by rw [ev6]; exact (tr_n_impl_Outside v5 v1.1 hfv5 hfv1p1) : Tr Tryz.prog 29 _ [⟨false, [.sl 1 (v6.map encS)]⟩]) (ar (A.e rfl rfl rfl) (.sr (A.h rfl rfl) le_all take_all .nil) (ar (A.e rfl rfl rfl) (.d .nil) .nil)) rfl (A.free rfl) rfl rfl), gN rfl rfl (fun t h A => by exact dy (zas rfl (A.e rfl rfl rfl))), gN rfl rfl (fun t h A => by exact dy (zas rfl (A.e rfl rfl rfl))), gN rfl rfl (fun t h A => by exact dy (zas rfl (A.e rfl rfl rfl))), trivial⟩ ?_
  refine s_end ?_
  refine v_ret ?_
  subst hr
  exact post_ret (rv (.tmp (eg rfl rfl)) rfl (.lf .nil) rfl (rv (.tmp (eg rfl rfl)) rfl (.sr rfl le_all take_all .nil) rfl (rv (.tmp (eg rfl rfl)) rfl (.sr rfl le_all take_all .nil) rfl .nil))) (.ro (.ro (.ro (.ro .nil)))) rfl
theorem law_Nearest (c : Cache) (now : Int) (s : ByteArray) (hc : c.Bnd) (hn : bndI now) : n_impl_Nearest c now s = n_spec_Nearest c now s := by
  simp only [n_impl_Nearest, n_spec_Nearest, bindv, law_Above]
  generalize n_spec_Above s = l
  have key : ∀ n i, n_impl_NearestL1 c now l n i = n_spec_NearestL1 c now l n i := by
    intro n
    induction n with
    | zero => intro i; rfl
    | succ n ih =>
      intro i
      rw [n_impl_NearestL1, n_spec_NearestL1, ih]
      cases decide ((i : Int) < (l.length : Int)) with
      | false => rfl
      | true =>
        simp only [cond_true, atL]
        cases hx : l[i]? with
        | none => rfl
        | some x =>
          simp only [bindv, law_ServersKnown c now _ hc hn, law_AllAddrs c now _ hc hn, law_Outside]
          generalize n_spec_ServersKnown c now x = v
          cases v with
          | nil => rfl
          | cons y r =>
            have e : decide ((0 : Int) < ((y :: r).length : Int)) = true := by simp
            rw [e]
            simp only [cond_true]
            cases decide ((0 : Int) < ((n_spec_Outside (y :: r) x).length : Int)) <;> cases decide ((0 : Int) < ((n_spec_AllAddrs c now (y :: r)).length : Int)) <;> rfl
  exact key _ _
theorem law_StartAt (c : Cache) (now : Int) (roots : List Int) (s : ByteArray) (hc : c.Bnd) (hn : bndI now) : n_impl_StartAt c now roots s = n_spec_StartAt c now roots s := by
  simp only [n_impl_StartAt, n_spec_StartAt, law_Nearest c now s hc hn, law_Uniq, law_ServersKnown c now _ hc hn, law_AllAddrs c now _ hc hn, law_Lacking c now _ hc hn, law_Outside]
theorem fit_StartAt_addrs (c : Cache) (now : Int) (roots : List Int) (s : ByteArray) (hw : c.wt ≤ 4194304) (hr : roots.length ≤ 4194304) : fitL fitU (n_spec_StartAt c now roots s).2.1 := by
  refine ⟨?_, fun _ _ => trivial⟩
  simp only [n_spec_StartAt, bindv]
  cases (n_spec_Nearest c now s).2 with
  | false =>
    obtain ⟨h1, h2⟩ := uniq_nodup roots
    exact Nat.le_trans (h1.length_le_of_subset h2) hr
  | true => exact Nat.le_trans (all_len c now _) hw
theorem fit_StartAt_need (c : Cache) (now : Int) (roots : List Int) (s : ByteArray) (h0 : c.Fit) (h3 : fitS s) : fitL fitS (n_spec_StartAt c now roots s).2.2 := by
  simp only [n_spec_StartAt, bindv]
  cases (n_spec_Nearest c now s).2 with
  | false => exact fitL_nil
  | true => exact fitx_n_spec_Outside _ _ (fitx_n_spec_Lacking _ _ _ h0 (fitx_n_spec_ServersKnown _ _ _ h0 (fitx_n_spec_Nearest _ _ _ h0 h3))) (fitx_n_spec_Nearest _ _ _ h0 h3)
theorem fit_StartAt_apex (c : Cache) (now : Int) (roots : List Int) (s : ByteArray) (h0 : c.Fit) (h3 : fitS s) : fitS (n_spec_StartAt c now roots s).1 := by
  simp only [n_spec_StartAt, bindv]
  cases (n_spec_Nearest c now s).2 with
  | false => exact Nat.zero_le _
  | true => exact fitx_n_spec_Nearest _ _ _ h0 h3
theorem tr2_n_impl_StartAt (a0 : Cache) (a1 : Int) (a2 : List Int) (a3 : ByteArray) (h0 : Cache.Fit a0) (h2 : fitL fitU a2) (h3 : fitS a3) (B0 : a0.Bnd) (B1 : bndI a1) : Tr Tryz.prog 8 [.ro ⟨true, [dI (a0.Cap), .sl 6 (a0.L.map Entry.cells)]⟩, .ro ⟨false, [dI (a1)]⟩, .ro ⟨false, [.sl 1 (a2.map encI)]⟩, .ro ⟨false, [dS (a3)]⟩] [⟨false, [dS ((n_spec_StartAt a0 a1 a2 a3).1)]⟩, ⟨false, [.sl 1 (((n_spec_StartAt a0 a1 a2 a3).2.1).map encI)]⟩, ⟨false, [.sl 1 (((n_spec_StartAt a0 a1 a2 a3).2.2).map encS)]⟩] := by
  have := tr_n_impl_StartAt a0 a1 a2 a3 h0 h2 h3 
  rwa [law_StartAt a0 a1 a2 a3 B0 B1] at this
theorem tr2_n_impl_Nearest (a0 : Cache) (a1 : Int) (a2 : ByteArray) (h0 : Cache.Fit a0) (h2 : fitS a2) (B0 : a0.Bnd) (B1 : bndI a1) : Tr Tryz.prog 25 [.ro ⟨true, [dI (a0.Cap), .sl 6 (a0.L.map Entry.cells)]⟩, .ro ⟨false, [dI (a1)]⟩, .ro ⟨false, [dS (a2)]⟩] [⟨false, [dS ((n_spec_Nearest a0 a1 a2).1)]⟩, ⟨false, [dB ((n_spec_Nearest a0 a1 a2).2)]⟩] := by
  have := tr_n_impl_Nearest a0 a1 a2 h0 h2 
  rwa [law_Nearest a0 a1 a2 B0 B1] at this
end Go.Proofs.YtglilpigoocgeaaGreatDoor.V
