/-
  Names.
-/
import Derived.Test.YtglilpigoocgeaaGreatDoorFD
import Derived.Test.YtglilpigoocgeaaGreatDoorN
namespace Go.Proofs.YtglilpigoocgeaaGreatDoor.V
open Go
set_option linter.unusedVariables false
set_option linter.unusedSimpArgs false
def n_spec_UnderL1 (v1 : List ByteArray) (v2 : List ByteArray) : Nat → Nat → Bool
  | 0, _ => default
  | n + 1, i => cond (decide (((i : Int)) ≤ (((v2).length : Int)))) (atL (v1) ((((v1).length : Int) - (i : Int)).toNat) (fun x3 => atL (v2) ((((v2).length : Int) - (i : Int)).toNat) (fun x4 => cond (decide ((x3) ≠ (x4))) (false) (n_spec_UnderL1 v1 v2 n (i + 1))))) (true)
def n_spec_Under (a0 : ByteArray) (a1 : ByteArray) : Bool := bindv (LB a0) (fun v1 => bindv (LB a1) (fun v2 => cond (decide ((((v1).length : Int)) < (((v2).length : Int)))) (false) (n_spec_UnderL1 v1 v2 ((v2).length + 1 + 1 - 1) 1)))
set_option maxHeartbeats 4000000 in
set_option maxRecDepth 20000 in
theorem tr_n_spec_Under (a0 : ByteArray) (a1 : ByteArray) (h0 : fitS a0) (h1 : fitS a1) : Tr Tryz.prog 40 [.ro ⟨false, [dS (a0)]⟩, .ro ⟨false, [dS (a1)]⟩] [⟨false, [dB ((n_spec_Under a0 a1))]⟩] := by
  obtain ⟨r, hr⟩ : ∃ r, n_spec_Under a0 a1 = r := ⟨_, rfl⟩
  rw [hr]
  rw [n_spec_Under] at hr
  refine tr_go tabOk Tryz.func40 rfl rfl rfl rfl rfl (ov := [(0, .t ⟨false, [.d (dS (a0))]⟩), (1, .t ⟨false, [.d (dS (a1))]⟩)]) (hv := []) rfl rfl ?_
  refine v_seq ?_
  refine v_reg ?_
  refine sy _ (zas rfl (ec rfl)) rfl rfl ?_
  refine s_end ?_
  refine v_seq ?_
  refine v_reg ?_
  refine sy _ (zmv rfl (e rfl rfl)) rfl rfl ?_
  obtain ⟨v1, ev1⟩ : ∃ v : List ByteArray, v = LB a0 := ⟨_, rfl⟩
  replace hr := bv_step ev1 hr
  have hfv1 : fitL fitS v1 := by rw [ev1]; exact fit_LB a0 h0
  have hq1 : (v1).length ≤ 2097153 := by rw [ev1]; exact LB_len a0 h0
  refine sd (.t ⟨false, [.d (.sl 1 (v1.map encS))]⟩) (zcd (.t ⟨false, [.d (.sl 1 (v1.map encS))]⟩) rfl (by rw [ev1]; exact (tr2_n_spec_Labels a0 h0) : Tr Tryz.prog 55 _ [⟨false, [.sl 1 (v1.map encS)]⟩]) (ar (e rfl rfl) (.d .nil) .nil) rfl) rfl rfl rfl rfl ?_
  refine sy _ (zas rfl (e rfl rfl)) rfl rfl ?_
  refine s_end ?_
  refine v_seq ?_
  refine v_reg ?_
  refine sy _ (zmv rfl (e rfl rfl)) rfl rfl ?_
  obtain ⟨v2, ev2⟩ : ∃ v : List ByteArray, v = LB a1 := ⟨_, rfl⟩
  replace hr := bv_step ev2 hr
  have hfv2 : fitL fitS v2 := by rw [ev2]; exact fit_LB a1 h1
  have hq2 : (v2).length ≤ 2097153 := by rw [ev2]; exact LB_len a1 h1
  refine sd (.t ⟨false, [.d (.sl 1 (v2.map encS))]⟩) (zcd (.t ⟨false, [.d (.sl 1 (v2.map encS))]⟩) rfl (by rw [ev2]; exact (tr2_n_spec_Labels a1 h1) : Tr Tryz.prog 55 _ [⟨false, [.sl 1 (v2.map encS)]⟩]) (ar (e rfl rfl) (.d .nil) .nil) rfl) rfl rfl rfl rfl ?_
  refine sy _ (zas rfl (e rfl rfl)) rfl rfl ?_
  refine s_end ?_
  refine v_seq ?_
  refine v_seq ?_
  refine v_reg ?_
  refine sy _ (zmv rfl (e rfl rfl)) rfl rfl ?_
  have hB1 := (hfv2).1
  refine sy (.t ⟨false, [.d (dI ((v2).length : Int))]⟩) (zlm tabOk rfl rfl (e rfl rfl) .d) rfl rfl ?_
  refine sy _ (zmv rfl (e rfl rfl)) rfl rfl ?_
  have hB2 := (hfv1).1
  refine sy (.t ⟨false, [.d (dI ((v1).length : Int))]⟩) (zlm tabOk rfl rfl (e rfl rfl) .d) rfl rfl ?_
  refine sy (.t ⟨false, [.d (dB (decide ((((v1).length : Int)) < (((v2).length : Int)))))]⟩) (y_bin rfl (e rfl rfl) (e rfl rfl) (fun _ => b_gtr) rfl) rfl rfl ?_
  refine s_end ?_
  refine v_cond (e rfl rfl) (fun hb3 => ?_) fun hb3 => ?_
  · replace hr := bf_t hb3 hr
    have hb3p := dec_t hb3
    refine v_seq ?_
    refine v_reg ?_
    refine sy _ (zas rfl (ec rfl)) rfl rfl ?_
    refine s_end ?_
    refine v_ret ?_
    subst hr
    exact post_ret (rv (.tmp (eg rfl rfl)) rfl (.lf .nil) rfl .nil) (.ro (.ro .nil)) rfl
  replace hr := bf_f hb3 hr
  have hb3p := dec_f hb3
  refine v_skip ?_
  refine v_seq ?_
  refine v_seq ?_
  refine v_reg ?_
  refine sy _ (zas rfl (ec rfl)) rfl rfl ?_
  refine s_end ?_
  refine v_block ?_
  refine v_lp (fun (q : Nat × Nat) => [(5, .t ⟨false, [.d (.sl 1 (v1.map encS))]⟩), (6, .t ⟨false, [.d (.sl 1 (v2.map encS))]⟩), (7, .t ⟨false, [.d (dI (q.2 : Int))]⟩)]) (fun q => []) (fun q => n_spec_UnderL1 v1 v2 q.1 q.2 = r ∧ (q.2 ≤ (v2).length + 1) ∧ (q.2 + q.1 = (v2).length + 1 + 1) ∧ (1 ≤ q.2)) (fun q => q.1) ((v2).length + 1 + 1 - 1, (1 : Nat)) ⟨hr, by (try dsimp only); (try simp only [List.length_nil, List.length_cons, List.length_replicate]); first | done | omega | exact Nat.zero_le _, by (try dsimp only); (try simp only [List.length_nil, List.length_cons, List.length_replicate]); first | done | omega | exact Nat.zero_le _, by (try dsimp only); (try simp only [List.length_nil, List.length_cons, List.length_replicate]); first | done | omega | exact Nat.zero_le _⟩ ⟨rfl, rfl, rfl, trivial⟩ trivial rfl (fun q hq => ?_)
  obtain ⟨n, i⟩ := q
  obtain ⟨hr, hi1x0, hi1x1, hi1x2⟩ := hq
  dsimp only at hr hi1x0 hi1x1 hi1x2
  show VWp _ _ _ (mk [(5, .t ⟨false, [.d (.sl 1 (v1.map encS))]⟩), (6, .t ⟨false, [.d (.sl 1 (v2.map encS))]⟩), (7, .t ⟨false, [.d (dI (i : Int))]⟩)] _ [])
  rcases n with _ | n
  · exfalso; omega
  rw [n_spec_UnderL1] at hr
  refine v_seq ?_
  refine v_seq ?_
  refine v_reg ?_
  refine sy _ (zmv rfl (e rfl rfl)) rfl rfl ?_
  refine sy _ (zmv rfl (e rfl rfl)) rfl rfl ?_
  refine sy (.t ⟨false, [.d (dI ((v2).length : Int))]⟩) (zlm tabOk rfl rfl (e rfl rfl) .d) rfl rfl ?_
  refine sy (.t ⟨false, [.d (dB (decide (((i : Int)) ≤ (((v2).length : Int)))))]⟩) (y_bin rfl (e rfl rfl) (e rfl rfl) (fun _ => b_leq) rfl) rfl rfl ?_
  refine s_end ?_
  refine v_cond (e rfl rfl) (fun hb4 => ?_) fun hb4 => ?_
  · replace hr := bf_t hb4 hr
    have hb4p := dec_t hb4
    refine v_skip ?_
    refine v_seq ?_
    refine v_block ?_
    refine v_seq ?_
    obtain ⟨x3, hx3⟩ : ∃ x, (v1)[(((v1).length : Int) - (i : Int)).toNat]? = some x := some_of_lt (by omega)
    replace hr := at_step hx3 hr
    have hfx3 := hfv1.2 _ (List.mem_of_getElem? hx3)
    obtain ⟨x4, hx4⟩ : ∃ x, (v2)[(((v2).length : Int) - (i : Int)).toNat]? = some x := some_of_lt (by omega)
    replace hr := at_step hx4 hr
    have hfx4 := hfv2.2 _ (List.mem_of_getElem? hx4)
    refine v_drw2 [⟨.t ⟨false, [.d (.sl 1 (v1.map encS))]⟩, [], [5], [], false⟩, ⟨.t ⟨false, [.d (.sl 1 (v1.map encS))]⟩, [], [5], [], false⟩, ⟨.t ⟨false, [.d (dI ((v1).length : Int))]⟩, [], [24], [], false⟩, ⟨.t ⟨false, [.d (dI (i : Int))]⟩, [], [7], [], false⟩, ⟨.t ⟨false, [.d (dI (((v1).length : Int) - (i : Int)))]⟩, [], [25, 26], [], false⟩, ⟨.t ⟨false, [.fe 1 (v1.map encS) ((((v1).length : Int) - (i : Int)).toNat) 0]⟩, [], [23, 27], [], false⟩, ⟨.t ⟨false, [.d (dS (x3))]⟩, [], [28], [], false⟩, ⟨.t ⟨false, [.d (.sl 1 (v2.map encS))]⟩, [], [6], [], false⟩, ⟨.t ⟨false, [.d (.sl 1 (v2.map encS))]⟩, [], [6], [], false⟩, ⟨.t ⟨false, [.d (dI ((v2).length : Int))]⟩, [], [31], [], false⟩, ⟨.t ⟨false, [.d (dI (i : Int))]⟩, [], [7], [], false⟩, ⟨.t ⟨false, [.d (dI (((v2).length : Int) - (i : Int)))]⟩, [], [32, 33], [], false⟩, ⟨.t ⟨false, [.fe 1 (v2.map encS) ((((v2).length : Int) - (i : Int)).toNat) 0]⟩, [], [30, 34], [], false⟩, ⟨.t ⟨false, [.d (dS (x4))]⟩, [], [35], [], false⟩, ⟨.t ⟨false, [.d (dB (decide ((x3) ≠ (x4))))]⟩, [], [29, 36], [], false⟩] mixed (.c rfl (.c rfl (.c rfl (.c rfl (.c rfl (.c rfl (.c rfl (.c rfl (.c rfl (.c rfl (.c rfl (.c rfl (.c rfl (.c rfl (.c rfl .nil))))))))))))))) (.s rfl (.s rfl (.s rfl (.s rfl (.s rfl (.s rfl (.s rfl (.s rfl (.s rfl (.s rfl (.s rfl (.s rfl (.s rfl (.s rfl (.s rfl .nil))))))))))))))) (by kernel_rfl) (by kernel_rfl) ⟨gN rfl rfl (fun t h A => by exact dy (zmv rfl (A.e rfl rfl rfl))), gN rfl rfl (fun t h A => by exact dy (zmv rfl (A.e rfl rfl rfl))), gN rfl rfl (fun t h A => by exact dy (zlm tabOk rfl rfl (A.e rfl rfl rfl) .d)), gN rfl rfl (fun t h A => by exact dy (zmv rfl (A.e rfl rfl rfl))), gN rfl rfl (fun t h A => by exact dy (y_bin rfl (A.e rfl rfl rfl) (A.e rfl rfl rfl) (fun _ => b_subn (by omega) (by omega)) rfl)), gN rfl rfl (fun t h A => by exact dy (zixI tabOk rfl rfl rfl (A.e rfl rfl rfl) (A.e rfl rfl rfl) (by omega) (ltm_of_some hx3))), gN rfl rfl (fun t h A => by exact dy (zle tabOk rfl (A.e rfl rfl rfl) (getm hx3) rfl rfl)), gN rfl rfl (fun t h A => by exact dy (zmv rfl (A.e rfl rfl rfl))), gN rfl rfl (fun t h A => by exact dy (zmv rfl (A.e rfl rfl rfl))), gN rfl rfl (fun t h A => by exact dy (zlm tabOk rfl rfl (A.e rfl rfl rfl) .d)), gN rfl rfl (fun t h A => by exact dy (zmv rfl (A.e rfl rfl rfl))), gN rfl rfl (fun t h A => by exact dy (y_bin rfl (A.e rfl rfl rfl) (A.e rfl rfl rfl) (fun _ => b_subn (by omega) (by omega)) rfl)), gN rfl rfl (fun t h A => by exact dy (zixI tabOk rfl rfl rfl (A.e rfl rfl rfl) (A.e rfl rfl rfl) (by omega) (ltm_of_some hx4))), gN rfl rfl (fun t h A => by exact dy (zle tabOk rfl (A.e rfl rfl rfl) (getm hx4) rfl rfl)), gN rfl rfl (fun t h A => by exact dy (y_bin rfl (A.e rfl rfl rfl) (A.e rfl rfl rfl) (fun _ => b_sneq) rfl)), trivial⟩ ?_
    refine s_end ?_
    refine v_cond (e rfl rfl) (fun hb5 => ?_) fun hb5 => ?_
    · replace hr := bf_t hb5 hr
      have hb5p := dec_t hb5
      refine v_seq ?_
      refine v_reg ?_
      refine sy _ (zas rfl (ec rfl)) rfl rfl ?_
      refine s_end ?_
      refine v_ret ?_
      subst hr
      exact post_ret (rv (.tmp (eg rfl rfl)) rfl (.lf .nil) rfl .nil) (.ro (.ro .nil)) rfl
    replace hr := bf_f hb5 hr
    have hb5p := dec_f hb5
    refine v_skip ?_
    refine blk_norm ?_
    refine v_reg ?_
    refine sy _ (zmv rfl (e rfl rfl)) rfl rfl ?_
    refine sy (.t ⟨false, [.d (dI (i + 1 : Int))]⟩) (y_bin rfl (e rfl rfl) (ec rfl) (fun _ => b_addn (by omega) (by omega)) rfl) rfl rfl ?_
    refine sy _ (zas rfl (e rfl rfl)) rfl rfl ?_
    refine s_end ?_
    exact lp_next (n, i + 1) ⟨hr, by (try simp only [List.length_append, List.length_cons, List.length_nil, List.length_set]); first | done | omega, by (try simp only [List.length_append, List.length_cons, List.length_nil, List.length_set]); first | done | omega, by (try simp only [List.length_append, List.length_cons, List.length_nil, List.length_set]); first | done | omega⟩ (Nat.lt_succ_self _) ⟨rfl, rfl, rfl, trivial⟩ trivial rfl
  replace hr := bf_f hb4 hr
  have hb4p := dec_f hb4
  refine v_exit ?_
  refine then_exit ?_
  refine loop_exit ?_
  refine blk_hit ?_
  refine v_seq ?_
  refine v_reg ?_
  refine sy _ (zas rfl (ec rfl)) rfl rfl ?_
  refine s_end ?_
  refine v_ret ?_
  subst hr
  exact post_ret (rv (.tmp (eg rfl rfl)) rfl (.lf .nil) rfl .nil) (.ro (.ro .nil)) rfl
def n_slices_Equal_stringL1 (a0 : List ByteArray) (a1 : List ByteArray) : Nat → Nat → Bool
  | 0, _ => default
  | n + 1, z13 => cond (decide (((z13 : Int)) < (((a0).length : Int)))) (atL (a0) (z13) (fun x1 => atL (a1) (z13) (fun x2 => cond (decide ((x1) ≠ (x2))) (false) (n_slices_Equal_stringL1 a0 a1 n (z13 + 1))))) (true)
def n_slices_Equal_string (a0 : List ByteArray) (a1 : List ByteArray) : Bool := cond (decide ((((a0).length : Int)) ≠ (((a1).length : Int)))) (false) (n_slices_Equal_stringL1 a0 a1 ((a0).length + 1) 0)
set_option maxHeartbeats 4000000 in
set_option maxRecDepth 20000 in
theorem tr_n_slices_Equal_string (a0 : List ByteArray) (a1 : List ByteArray) (h0 : fitL fitS a0) (h1 : fitL fitS a1) : Tr Tryz.prog 71 [.ro ⟨false, [.sl 1 (a0.map encS)]⟩, .ro ⟨false, [.sl 1 (a1.map encS)]⟩] [⟨false, [dB ((n_slices_Equal_string a0 a1))]⟩] := by
  obtain ⟨r, hr⟩ : ∃ r, n_slices_Equal_string a0 a1 = r := ⟨_, rfl⟩
  rw [hr]
  rw [n_slices_Equal_string] at hr
  refine tr_go tabOk Tryz.func71 rfl rfl rfl rfl rfl (ov := [(0, .t ⟨false, [.d (.sl 1 (a0.map encS))]⟩), (1, .t ⟨false, [.d (.sl 1 (a1.map encS))]⟩)]) (hv := []) rfl rfl ?_
  refine v_seq ?_
  refine v_reg ?_
  refine sy _ (zas rfl (ec rfl)) rfl rfl ?_
  refine s_end ?_
  refine v_seq ?_
  refine v_seq ?_
  refine v_reg ?_
  refine sy _ (zmv rfl (e rfl rfl)) rfl rfl ?_
  have hB1 := (h0).1
  refine sy (.t ⟨false, [.d (dI ((a0).length : Int))]⟩) (zlm tabOk rfl rfl (e rfl rfl) .d) rfl rfl ?_
  refine sy _ (zmv rfl (e rfl rfl)) rfl rfl ?_
  have hB2 := (h1).1
  refine sy (.t ⟨false, [.d (dI ((a1).length : Int))]⟩) (zlm tabOk rfl rfl (e rfl rfl) .d) rfl rfl ?_
  refine sy (.t ⟨false, [.d (dB (decide ((((a0).length : Int)) ≠ (((a1).length : Int)))))]⟩) (y_bin rfl (e rfl rfl) (e rfl rfl) (fun _ => b_neq) rfl) rfl rfl ?_
  refine s_end ?_
  refine v_cond (e rfl rfl) (fun hb1 => ?_) fun hb1 => ?_
  · replace hr := bf_t hb1 hr
    have hb1p := dec_t hb1
    refine v_seq ?_
    refine v_reg ?_
    refine sy _ (zas rfl (ec rfl)) rfl rfl ?_
    refine s_end ?_
    refine v_ret ?_
    subst hr
    exact post_ret (rv (.tmp (eg rfl rfl)) rfl (.lf .nil) rfl .nil) (.ro (.ro .nil)) rfl
  replace hr := bf_f hb1 hr
  have hb1p := dec_f hb1
  refine v_skip ?_
  refine v_seq ?_
  refine v_seq ?_
  refine v_reg ?_
  refine sy _ (zmv rfl (e rfl rfl)) rfl rfl ?_
  refine sy (.t ⟨false, [.d (dI ((a0).length : Int))]⟩) (zlm tabOk rfl rfl (e rfl rfl) .d) rfl rfl ?_
  refine sy _ (zmv rfl (ec rfl)) rfl rfl ?_
  refine s_end ?_
  refine v_block ?_
  refine v_lp (fun (q : Nat × Nat) => [(0, .t ⟨false, [.d (.sl 1 (a0.map encS))]⟩), (1, .t ⟨false, [.d (.sl 1 (a1.map encS))]⟩), (12, .t ⟨false, [.d (dI ((a0).length : Int))]⟩), (13, .t ⟨false, [.d (dI (q.2 : Int))]⟩)]) (fun q => []) (fun q => n_slices_Equal_stringL1 a0 a1 q.1 q.2 = r ∧ (q.2 ≤ (a0).length) ∧ (q.2 + q.1 = (a0).length + 1)) (fun q => q.1) ((a0).length + 1, (0 : Nat)) ⟨hr, by (try dsimp only); (try simp only [List.length_nil, List.length_cons, List.length_replicate]); first | done | omega | exact Nat.zero_le _, by (try dsimp only); (try simp only [List.length_nil, List.length_cons, List.length_replicate]); first | done | omega | exact Nat.zero_le _⟩ ⟨rfl, rfl, rfl, rfl, trivial⟩ trivial rfl (fun q hq => ?_)
  obtain ⟨n, z13⟩ := q
  obtain ⟨hr, hi1x0, hi1x1⟩ := hq
  dsimp only at hr hi1x0 hi1x1
  show VWp _ _ _ (mk [(0, .t ⟨false, [.d (.sl 1 (a0.map encS))]⟩), (1, .t ⟨false, [.d (.sl 1 (a1.map encS))]⟩), (12, .t ⟨false, [.d (dI ((a0).length : Int))]⟩), (13, .t ⟨false, [.d (dI (z13 : Int))]⟩)] _ [])
  rcases n with _ | n
  · exfalso; omega
  rw [n_slices_Equal_stringL1] at hr
  refine v_seq ?_
  refine v_reg ?_
  refine sy (.t ⟨false, [.d (dB (decide (((z13 : Int)) < (((a0).length : Int)))))]⟩) (y_bin rfl (e rfl rfl) (e rfl rfl) (fun _ => b_lss) rfl) rfl rfl ?_
  refine s_end ?_
  refine v_seq ?_
  refine v_cond (e rfl rfl) (fun hb2 => ?_) fun hb2 => ?_
  · replace hr := bf_t hb2 hr
    have hb2p := dec_t hb2
    refine v_skip ?_
    refine v_seq ?_
    refine v_block ?_
    refine v_seq ?_
    refine v_reg ?_
    refine sy _ (zmv rfl (e rfl rfl)) rfl rfl ?_
    refine sy _ (zas rfl (e rfl rfl)) rfl rfl ?_
    refine s_end ?_
    refine v_seq ?_
    obtain ⟨x1, hx1⟩ : ∃ x, (a0)[z13]? = some x := some_of_lt (by omega)
    replace hr := at_step hx1 hr
    have hfx1 := h0.2 _ (List.mem_of_getElem? hx1)
    obtain ⟨x2, hx2⟩ : ∃ x, (a1)[z13]? = some x := some_of_lt (by omega)
    replace hr := at_step hx2 hr
    have hfx2 := h1.2 _ (List.mem_of_getElem? hx2)
    refine v_drw2 [⟨.t ⟨false, [.d (.sl 1 (a0.map encS))]⟩, [], [0], [], false⟩, ⟨.t ⟨false, [.d (dI (z13 : Int))]⟩, [], [5], [], false⟩, ⟨.t ⟨false, [.fe 1 (a0.map encS) z13 0]⟩, [], [16, 17], [], false⟩, ⟨.t ⟨false, [.d (dS (x1))]⟩, [], [18], [], false⟩, ⟨.t ⟨false, [.d (.sl 1 (a1.map encS))]⟩, [], [1], [], false⟩, ⟨.t ⟨false, [.d (dI (z13 : Int))]⟩, [], [5], [], false⟩, ⟨.t ⟨false, [.fe 1 (a1.map encS) z13 0]⟩, [], [20, 21], [], false⟩, ⟨.t ⟨false, [.d (dS (x2))]⟩, [], [22], [], false⟩, ⟨.t ⟨false, [.d (dB (decide ((x1) ≠ (x2))))]⟩, [], [19, 23], [], false⟩] mixed (.c rfl (.c rfl (.c rfl (.c rfl (.c rfl (.c rfl (.c rfl (.c rfl (.c rfl .nil))))))))) (.s rfl (.s rfl (.s rfl (.s rfl (.s rfl (.s rfl (.s rfl (.s rfl (.s rfl .nil))))))))) (by kernel_rfl) (by kernel_rfl) ⟨gN rfl rfl (fun t h A => by exact dy (zmv rfl (A.e rfl rfl rfl))), gN rfl rfl (fun t h A => by exact dy (zmv rfl (A.e rfl rfl rfl))), gN rfl rfl (fun t h A => by exact dy (zix tabOk rfl rfl rfl (A.e rfl rfl rfl) (A.e rfl rfl rfl) (ltm_of_some hx1))), gN rfl rfl (fun t h A => by exact dy (zle tabOk rfl (A.e rfl rfl rfl) (getm hx1) rfl rfl)), gN rfl rfl (fun t h A => by exact dy (zmv rfl (A.e rfl rfl rfl))), gN rfl rfl (fun t h A => by exact dy (zmv rfl (A.e rfl rfl rfl))), gN rfl rfl (fun t h A => by exact dy (zix tabOk rfl rfl rfl (A.e rfl rfl rfl) (A.e rfl rfl rfl) (ltm_of_some hx2))), gN rfl rfl (fun t h A => by exact dy (zle tabOk rfl (A.e rfl rfl rfl) (getm hx2) rfl rfl)), gN rfl rfl (fun t h A => by exact dy (y_bin rfl (A.e rfl rfl rfl) (A.e rfl rfl rfl) (fun _ => b_sneq) rfl)), trivial⟩ ?_
    refine s_end ?_
    refine v_cond (e rfl rfl) (fun hb3 => ?_) fun hb3 => ?_
    · replace hr := bf_t hb3 hr
      have hb3p := dec_t hb3
      refine v_seq ?_
      refine v_reg ?_
      refine sy _ (zas rfl (ec rfl)) rfl rfl ?_
      refine s_end ?_
      refine v_ret ?_
      subst hr
      exact post_ret (rv (.tmp (eg rfl rfl)) rfl (.lf .nil) rfl .nil) (.ro (.ro .nil)) rfl
    replace hr := bf_f hb3 hr
    have hb3p := dec_f hb3
    refine v_skip ?_
    refine blk_norm ?_
    refine v_reg ?_
    refine sy (.t ⟨false, [.d (dI (z13 + 1 : Int))]⟩) (y_bin rfl (e rfl rfl) (ec rfl) (fun _ => b_addn (by omega) (by omega)) rfl) rfl rfl ?_
    refine sy _ (zmv rfl (e rfl rfl)) rfl rfl ?_
    refine s_end ?_
    exact lp_next (n, z13 + 1) ⟨hr, by (try simp only [List.length_append, List.length_cons, List.length_nil, List.length_set]); first | done | omega, by (try simp only [List.length_append, List.length_cons, List.length_nil, List.length_set]); first | done | omega⟩ (Nat.lt_succ_self _) ⟨rfl, rfl, rfl, rfl, trivial⟩ trivial rfl
  replace hr := bf_f hb2 hr
  have hb2p := dec_f hb2
  refine v_exit ?_
  refine then_exit ?_
  refine loop_exit ?_
  refine blk_hit ?_
  refine v_seq ?_
  refine v_reg ?_
  refine sy _ (zas rfl (ec rfl)) rfl rfl ?_
  refine s_end ?_
  refine v_ret ?_
  subst hr
  exact post_ret (rv (.tmp (eg rfl rfl)) rfl (.lf .nil) rfl .nil) (.ro (.ro .nil)) rfl
def n_impl_Under (a0 : ByteArray) (a1 : ByteArray) : Bool := bindv (LB a0) (fun v1 => bindv (LB a1) (fun v2 => cond (decide ((((v2).length : Int)) ≤ (((v1).length : Int)))) (bindv ((v1).drop ((((v1).length : Int) - ((v2).length : Int)).toNat)) (fun v3 => n_slices_Equal_string v3 v2)) (false)))
set_option maxHeartbeats 4000000 in
set_option maxRecDepth 20000 in
theorem tr_n_impl_Under (a0 : ByteArray) (a1 : ByteArray) (h0 : fitS a0) (h1 : fitS a1) : Tr Tryz.prog 50 [.ro ⟨false, [dS (a0)]⟩, .ro ⟨false, [dS (a1)]⟩] [⟨false, [dB ((n_impl_Under a0 a1))]⟩] := by
  obtain ⟨r, hr⟩ : ∃ r, n_impl_Under a0 a1 = r := ⟨_, rfl⟩
  rw [hr]
  rw [n_impl_Under] at hr
  refine tr_go tabOk Tryz.func50 rfl rfl rfl rfl rfl (ov := [(0, .t ⟨false, [.d (dS (a0))]⟩), (1, .t ⟨false, [.d (dS (a1))]⟩)]) (hv := []) rfl rfl ?_
  refine v_seq ?_
  refine v_reg ?_
  refine sy _ (zas rfl (ec rfl)) rfl rfl ?_
  refine s_end ?_
  refine v_seq ?_
  refine v_reg ?_
  refine sy _ (zmv rfl (e rfl rfl)) rfl rfl ?_
  obtain ⟨v1, ev1⟩ : ∃ v : List ByteArray, v = LB a0 := ⟨_, rfl⟩
  replace hr := bv_step ev1 hr
  have hfv1 : fitL fitS v1 := by rw [ev1]; exact fit_LB a0 h0
  have hq1 : (v1).length ≤ 2097153 := by rw [ev1]; exact LB_len a0 h0
  refine sd (.t ⟨false, [.d (.sl 1 (v1.map encS))]⟩) (zcd (.t ⟨false, [.d (.sl 1 (v1.map encS))]⟩) rfl (by rw [ev1]; exact (tr2_n_impl_Labels a0 h0) : Tr Tryz.prog 64 _ [⟨false, [.sl 1 (v1.map encS)]⟩]) (ar (e rfl rfl) (.d .nil) .nil) rfl) rfl rfl rfl rfl ?_
  refine sy _ (zmv rfl (e rfl rfl)) rfl rfl ?_
  obtain ⟨v2, ev2⟩ : ∃ v : List ByteArray, v = LB a1 := ⟨_, rfl⟩
  replace hr := bv_step ev2 hr
  have hfv2 : fitL fitS v2 := by rw [ev2]; exact fit_LB a1 h1
  have hq2 : (v2).length ≤ 2097153 := by rw [ev2]; exact LB_len a1 h1
  refine sd (.t ⟨false, [.d (.sl 1 (v2.map encS))]⟩) (zcd (.t ⟨false, [.d (.sl 1 (v2.map encS))]⟩) rfl (by rw [ev2]; exact (tr2_n_impl_Labels a1 h1) : Tr Tryz.prog 64 _ [⟨false, [.sl 1 (v2.map encS)]⟩]) (ar (e rfl rfl) (.d .nil) .nil) rfl) rfl rfl rfl rfl ?_
  refine sy _ (zas rfl (e rfl rfl)) rfl rfl ?_
  refine sy _ (zas rfl (e rfl rfl)) rfl rfl ?_
  refine s_end ?_
  refine v_seq ?_
  refine v_reg ?_
  refine sy _ (zmv rfl (e rfl rfl)) rfl rfl ?_
  have hB1 := (hfv1).1
  refine sy (.t ⟨false, [.d (dI ((v1).length : Int))]⟩) (zlm tabOk rfl rfl (e rfl rfl) .d) rfl rfl ?_
  refine sy _ (zmv rfl (e rfl rfl)) rfl rfl ?_
  have hB2 := (hfv2).1
  refine sy (.t ⟨false, [.d (dI ((v2).length : Int))]⟩) (zlm tabOk rfl rfl (e rfl rfl) .d) rfl rfl ?_
  refine sy (.t ⟨false, [.d (dB (decide ((((v2).length : Int)) ≤ (((v1).length : Int)))))]⟩) (y_bin rfl (e rfl rfl) (e rfl rfl) (fun _ => b_geq) rfl) rfl rfl ?_
  refine sy _ (zmv rfl (e rfl rfl)) rfl rfl ?_
  rcases Bool.eq_false_or_eq_true (decide ((((v2).length : Int)) ≤ (((v1).length : Int)))) with hg3 | hg3
  · replace hr := bf_t hg3 hr
    have hg3p := dec_t hg3
    refine gr rfl rfl rfl (eg rfl rfl) hg3 ?_
    refine sy _ (zmv rfl (e rfl rfl)) rfl rfl ?_
    refine gr rfl rfl rfl (eg rfl rfl) hg3 ?_
    refine sy _ (zmv rfl (e rfl rfl)) rfl rfl ?_
    refine gr rfl rfl rfl (eg rfl rfl) hg3 ?_
    refine sy (.t ⟨false, [.d (dI ((v1).length : Int))]⟩) (zlm tabOk rfl rfl (e rfl rfl) .d) rfl rfl ?_
    refine gr rfl rfl rfl (eg rfl rfl) hg3 ?_
    refine sy _ (zmv rfl (e rfl rfl)) rfl rfl ?_
    refine gr rfl rfl rfl (eg rfl rfl) hg3 ?_
    refine sy (.t ⟨false, [.d (dI ((v2).length : Int))]⟩) (zlm tabOk rfl rfl (e rfl rfl) .d) rfl rfl ?_
    refine gr rfl rfl rfl (eg rfl rfl) hg3 ?_
    refine sy (.t ⟨false, [.d (dI (((v1).length : Int) - ((v2).length : Int)))]⟩) (y_bin rfl (e rfl rfl) (e rfl rfl) (fun _ => b_subn (by omega) (by omega)) rfl) rfl rfl ?_
    refine gr rfl rfl rfl (eg rfl rfl) hg3 ?_
    obtain ⟨v3, ev3⟩ : ∃ v : List ByteArray, v = (v1).drop ((((v1).length : Int) - ((v2).length : Int)).toNat) := ⟨_, rfl⟩
    replace hr := bv_step ev3 hr
    have hl4 : (((v1).length : Int) - ((v2).length : Int)).toNat ≤ (v1).length := by omega
    have hl4u : (v1).length ≤ (v1).length := by omega
    have hl4z := len_from ev3
    have hfv3 := fit_from ev3 hfv1
    refine sy (.t ⟨false, [.d (.sl 1 (v3.map encS))]⟩) (by rw [ev3]; exact zsx tabOk rfl rfl rfl (e rfl rfl) (sbs (e rfl rfl) (by omega)) (sbn rfl) (by rw [List.length_map]; exact hl4) (Nat.le_refl _) sl_from) rfl rfl ?_
    refine gr rfl rfl rfl (eg rfl rfl) hg3 ?_
    refine sy _ (zmv rfl (e rfl rfl)) rfl rfl ?_
    refine gr rfl rfl rfl (eg rfl rfl) hg3 ?_
    refine sd (.t ⟨false, [.d (dB (n_slices_Equal_string v3 v2))]⟩) (zcd (.t ⟨false, [.d (dB (n_slices_Equal_string v3 v2))]⟩) rfl (tr_n_slices_Equal_string v3 v2 hfv3 hfv2) (ar (e rfl rfl) (.d .nil) (ar (e rfl rfl) (.d .nil) .nil)) rfl) rfl rfl rfl rfl ?_
    refine sy (.t ⟨false, [.d (dB (n_slices_Equal_string v3 v2))]⟩) (zpt rfl (e rfl rfl) hg3 (e rfl rfl)) rfl rfl ?_
    refine sy _ (zas rfl (e rfl rfl)) rfl rfl ?_
    refine s_end ?_
    refine v_ret ?_
    subst hr
    exact post_ret (rv (.tmp (eg rfl rfl)) rfl (.lf .nil) rfl .nil) (.ro (.ro .nil)) rfl
  replace hr := bf_f hg3 hr
  have hg3p := dec_f hg3
  refine gs rfl rfl rfl (eg rfl rfl) hg3 rfl ?_
  refine gs rfl rfl rfl (eg rfl rfl) hg3 rfl ?_
  refine gs rfl rfl rfl (eg rfl rfl) hg3 rfl ?_
  refine gs rfl rfl rfl (eg rfl rfl) hg3 rfl ?_
  refine gs rfl rfl rfl (eg rfl rfl) hg3 rfl ?_
  refine gs rfl rfl rfl (eg rfl rfl) hg3 rfl ?_
  refine gs rfl rfl rfl (eg rfl rfl) hg3 rfl ?_
  refine gs rfl rfl rfl (eg rfl rfl) hg3 rfl ?_
  refine gs rfl rfl rfl (eg rfl rfl) hg3 rfl ?_
  refine sy (.t ⟨false, [.d (dB (false))]⟩) (zpf rfl (e rfl rfl) hg3 (ec rfl)) rfl rfl ?_
  refine sy _ (zas rfl (e rfl rfl)) rfl rfl ?_
  refine s_end ?_
  refine v_ret ?_
  subst hr
  exact post_ret (rv (.tmp (eg rfl rfl)) rfl (.lf .nil) rfl .nil) (.ro (.ro .nil)) rfl
theorem equal_string (xs ys : List ByteArray) : n_slices_Equal_string xs ys = decide (xs = ys) := by
  unfold n_slices_Equal_string
  cases hc : decide ((xs.length : Int) ≠ (ys.length : Int)) with
  | true =>
    have := of_decide_eq_true hc
    simp only [cond_true]
    exact (decide_eq_false fun e => this (by rw [e])).symm
  | false =>
    have hl : xs.length = ys.length := by have := of_decide_eq_false hc; omega
    simp only [cond_false]
    have key : ∀ (n i : Nat), i ≤ xs.length → i + n = xs.length + 1 → n_slices_Equal_stringL1 xs ys n i = decide (xs.drop i = ys.drop i) := by
      intro n
      induction n with
      | zero => intro i h1 h2; omega
      | succ n ih =>
        intro i h1 h2
        rw [n_slices_Equal_stringL1]
        rcases Nat.lt_or_ge i xs.length with h | h
        · have e : (decide ((i : Int) < (xs.length : Int))) = true := by simp; omega
          have h' : i < ys.length := by omega
          rw [e, cond_true, atL_lt h, atL_lt h', ih (i + 1) (by omega) (by omega), List.drop_eq_getElem_cons h, List.drop_eq_getElem_cons h']
          simp only [List.cons.injEq]
          by_cases hx : xs[i] = ys[i] <;> simp only [hx, ne_eq, not_true_eq_false, not_false_eq_true, decide_true, decide_false, cond_true, cond_false, true_and, false_and]
        · have e : (decide ((i : Int) < (xs.length : Int))) = false := by simp; omega
          rw [e, cond_false, List.drop_eq_nil_of_le h, List.drop_eq_nil_of_le (by omega)]; simp
    have := key (xs.length + 1) 0 (Nat.zero_le _) (Nat.zero_add _)
    simpa using this
theorem under_loop (x y : List ByteArray) (hl : y.length ≤ x.length) : ∀ (n i : Nat), 1 ≤ i → i ≤ y.length + 1 → i + n = y.length + 2 →
    n_spec_UnderL1 x y n i = decide ((x.drop (x.length - y.length)).take (y.length + 1 - i) = y.take (y.length + 1 - i))
  | 0, i, h0, h1, h2 => by omega
  | n + 1, i, h0, h1, h2 => by
    rw [n_spec_UnderL1]
    rcases Nat.lt_or_ge y.length i with h | h
    · have e : (decide ((i : Int) ≤ (y.length : Int))) = false := by simp; omega
      rw [e, cond_false, show y.length + 1 - i = 0 by omega]; simp
    · have e : (decide ((i : Int) ≤ (y.length : Int))) = true := by simp; omega
      have e1 : ((x.length : Int) - (i : Int)).toNat = x.length - i := by omega
      have e2 : ((y.length : Int) - (i : Int)).toNat = y.length - i := by omega
      rw [e, cond_true, e1, e2, atL_lt (by omega : x.length - i < x.length), atL_lt (by omega : y.length - i < y.length), under_loop x y hl n (i + 1) (by omega) (by omega) (by omega)]
      rw [show y.length + 1 - i = (y.length + 1 - (i + 1)) + 1 by omega, List.take_add_one, List.take_add_one]
      have g1 : (x.drop (x.length - y.length))[y.length + 1 - (i + 1)]? = some (x[x.length - i]'(by omega)) := by
        rw [List.getElem?_drop, List.getElem?_eq_getElem (by omega)]
        congr 2; omega
      have g2 : y[y.length + 1 - (i + 1)]? = some (y[y.length - i]'(by omega)) := by
        rw [List.getElem?_eq_getElem (by omega)]
        congr 2; omega
      rw [g1, g2]
      have hlen : ((x.drop (x.length - y.length)).take (y.length + 1 - (i + 1))).length = (y.take (y.length + 1 - (i + 1))).length := by
        rw [List.length_take, List.length_take, List.length_drop]; omega
      have iff : ((x.drop (x.length - y.length)).take (y.length + 1 - (i + 1)) ++ (some (x[x.length - i]'(by omega))).toList = y.take (y.length + 1 - (i + 1)) ++ (some (y[y.length - i]'(by omega))).toList) ↔
          (x[x.length - i]'(by omega) = y[y.length - i]'(by omega) ∧ (x.drop (x.length - y.length)).take (y.length + 1 - (i + 1)) = y.take (y.length + 1 - (i + 1))) :=
        ⟨fun e => by obtain ⟨p, q⟩ := List.append_inj e hlen; exact ⟨by simpa using q, p⟩, fun ⟨p, q⟩ => by rw [p, q]⟩
      simp only [iff]
      by_cases hx : x[x.length - i]'(by omega) = y[y.length - i]'(by omega) <;> simp only [hx, ne_eq, not_true_eq_false, not_false_eq_true, decide_true, decide_false, cond_true, cond_false, true_and, false_and]
theorem law_Under (a b : ByteArray) : n_impl_Under a b = n_spec_Under a b := by
  simp only [n_impl_Under, n_spec_Under, bindv, equal_string]
  generalize LB a = x
  generalize LB b = y
  cases hc : decide ((y.length : Int) ≤ (x.length : Int)) with
  | true =>
    have hl := of_decide_eq_true hc
    have e : decide ((x.length : Int) < (y.length : Int)) = false := by simp; omega
    rw [e, cond_true, cond_false, show y.length + 1 + 1 - 1 = y.length + 1 by omega, under_loop x y (by omega) _ 1 (Nat.le_refl _) (by omega) (by omega)]
    rw [show ((x.length : Int) - (y.length : Int)).toNat = x.length - y.length by omega, show y.length + 1 - 1 = y.length by omega, List.take_length]
    rw [List.take_of_length_le (by rw [List.length_drop]; omega)]
  | false =>
    have hl := of_decide_eq_false hc
    have e : decide ((x.length : Int) < (y.length : Int)) = true := by simp; omega
    rw [e]; rfl
theorem tr2_n_impl_Under (a0 : ByteArray) (a1 : ByteArray) (h0 : fitS a0) (h1 : fitS a1) : Tr Tryz.prog 50 [.ro ⟨false, [dS (a0)]⟩, .ro ⟨false, [dS (a1)]⟩] [⟨false, [dB ((n_spec_Under a0 a1))]⟩] := by
  have := tr_n_impl_Under a0 a1 h0 h1 
  rwa [law_Under a0 a1] at this
end Go.Proofs.YtglilpigoocgeaaGreatDoor.V
