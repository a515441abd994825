/-
  Lists without repetition; hosts, addresses.
-/
import Derived.Test.YtglilpigoocgeaaGreatDoorVE
import Derived.Test.YtglilpigoocgeaaGreatDoorN
import Derived.Test.YtglilpigoocgeaaGreatDoorFA
import Derived.Test.YtglilpigoocgeaaGreatDoorFE
namespace Go.Proofs.YtglilpigoocgeaaGreatDoor.V
open Go
set_option linter.unusedVariables false
set_option linter.unusedSimpArgs false
def n_slices_Index_intL1 (a0 : List Int) (a1 : Int) : Nat → Nat → Int
  | 0, _ => default
  | n + 1, z8 => cond (decide (((z8 : Int)) < (((a0).length : Int)))) (atL (a0) (z8) (fun x1 => cond (decide ((a1) = (x1))) ((z8 : Int)) (n_slices_Index_intL1 a0 a1 n (z8 + 1)))) (-1)
def n_slices_Index_int (a0 : List Int) (a1 : Int) : Int := n_slices_Index_intL1 a0 a1 ((a0).length + 1) 0
set_option maxHeartbeats 4000000 in
set_option maxRecDepth 20000 in
theorem tr_n_slices_Index_int (a0 : List Int) (a1 : Int) (h0 : fitJ a0) : Tr Tryz.prog 66 [.ro ⟨false, [.sl 1 (a0.map encI)]⟩, .ro ⟨false, [dI (a1)]⟩] [⟨false, [dI ((n_slices_Index_int a0 a1))]⟩] := by
  obtain ⟨r, hr⟩ : ∃ r, n_slices_Index_int a0 a1 = r := ⟨_, rfl⟩
  rw [hr]
  rw [n_slices_Index_int] at hr
  refine tr_go tabOk Tryz.func66 rfl rfl rfl rfl rfl (ov := [(0, .t ⟨false, [.d (.sl 1 (a0.map encI))]⟩), (1, .t ⟨false, [.d (dI (a1))]⟩)]) (hv := []) rfl rfl ?_
  refine v_seq ?_
  refine v_reg ?_
  refine sy _ (zas rfl (ec rfl)) rfl rfl ?_
  refine s_end ?_
  refine v_seq ?_
  refine v_seq ?_
  refine v_reg ?_
  refine sy _ (zmv rfl (e rfl rfl)) rfl rfl ?_
  have hB1 := (h0).1
  refine sy (.t ⟨false, [.d (dI ((a0).length : Int))]⟩) (zlm tabOk rfl rfl (e rfl rfl) .d) rfl rfl ?_
  refine sy _ (zmv rfl (ec rfl)) rfl rfl ?_
  refine s_end ?_
  refine v_block ?_
  refine v_lp (fun (q : Nat × Nat) => [(0, .t ⟨false, [.d (.sl 1 (a0.map encI))]⟩), (1, .t ⟨false, [.d (dI (a1))]⟩), (7, .t ⟨false, [.d (dI ((a0).length : Int))]⟩), (8, .t ⟨false, [.d (dI (q.2 : Int))]⟩)]) (fun q => []) (fun q => n_slices_Index_intL1 a0 a1 q.1 q.2 = r ∧ (q.2 ≤ (a0).length) ∧ (q.2 + q.1 = (a0).length + 1)) (fun q => q.1) ((a0).length + 1, (0 : Nat)) ⟨hr, by (try dsimp only); (try simp only [List.length_nil, List.length_cons, List.length_replicate]); first | done | omega | exact Nat.zero_le _, by (try dsimp only); (try simp only [List.length_nil, List.length_cons, List.length_replicate]); first | done | omega | exact Nat.zero_le _⟩ ⟨rfl, rfl, rfl, rfl, trivial⟩ trivial rfl (fun q hq => ?_)
  obtain ⟨n, z8⟩ := q
  obtain ⟨hr, hi1x0, hi1x1⟩ := hq
  dsimp only at hr hi1x0 hi1x1
  show VWp _ _ _ (mk [(0, .t ⟨false, [.d (.sl 1 (a0.map encI))]⟩), (1, .t ⟨false, [.d (dI (a1))]⟩), (7, .t ⟨false, [.d (dI ((a0).length : Int))]⟩), (8, .t ⟨false, [.d (dI (z8 : Int))]⟩)] _ [])
  rcases n with _ | n
  · exfalso; omega
  rw [n_slices_Index_intL1] at hr
  refine v_seq ?_
  refine v_reg ?_
  refine sy (.t ⟨false, [.d (dB (decide (((z8 : Int)) < (((a0).length : Int)))))]⟩) (y_bin rfl (e rfl rfl) (e rfl rfl) (fun _ => b_lss) rfl) rfl rfl ?_
  refine s_end ?_
  refine v_seq ?_
  refine v_cond (e rfl rfl) (fun hb1 => ?_) fun hb1 => ?_
  · replace hr := bf_t hb1 hr
    have hb1p := dec_t hb1
    refine v_skip ?_
    refine v_seq ?_
    refine v_block ?_
    refine v_seq ?_
    refine v_reg ?_
    refine sy _ (zmv rfl (e rfl rfl)) rfl rfl ?_
    refine sy _ (zas rfl (e rfl rfl)) rfl rfl ?_
    refine s_end ?_
    refine v_seq ?_
    refine v_reg ?_
    refine sy _ (zmv rfl (e rfl rfl)) rfl rfl ?_
    refine sy _ (zmv rfl (e rfl rfl)) rfl rfl ?_
    refine sy _ (zmv rfl (e rfl rfl)) rfl rfl ?_
    obtain ⟨x1, hx1⟩ : ∃ x, (a0)[z8]? = some x := some_of_lt (by omega)
    replace hr := at_step hx1 hr
    refine sy (.t ⟨false, [.fe 1 (a0.map encI) z8 0]⟩) (zix tabOk rfl rfl rfl (e rfl rfl) (e rfl rfl) (ltm_of_some hx1)) rfl rfl ?_
    refine sy (.t ⟨false, [.d (dI (x1))]⟩) (zle tabOk rfl (e rfl rfl) (getm hx1) rfl rfl) rfl rfl ?_
    refine sy (.t ⟨false, [.d (dB (decide ((a1) = (x1))))]⟩) (y_bin rfl (e rfl rfl) (e rfl rfl) (fun _ => b_eql) rfl) rfl rfl ?_
    refine s_end ?_
    refine v_cond (e rfl rfl) (fun hb2 => ?_) fun hb2 => ?_
    · replace hr := bf_t hb2 hr
      have hb2p := dec_t hb2
      refine v_seq ?_
      refine v_reg ?_
      refine sy _ (zmv rfl (e rfl rfl)) rfl rfl ?_
      refine sy _ (zas rfl (e rfl rfl)) rfl rfl ?_
      refine s_end ?_
      refine v_ret ?_
      subst hr
      exact post_ret (rv (.tmp (eg rfl rfl)) rfl (.lf .nil) rfl .nil) (.ro (.ro .nil)) rfl
    replace hr := bf_f hb2 hr
    have hb2p := dec_f hb2
    refine v_skip ?_
    refine blk_norm ?_
    refine v_reg ?_
    refine sy (.t ⟨false, [.d (dI (z8 + 1 : Int))]⟩) (y_bin rfl (e rfl rfl) (ec rfl) (fun _ => b_addn (by omega) (by omega)) rfl) rfl rfl ?_
    refine sy _ (zmv rfl (e rfl rfl)) rfl rfl ?_
    refine s_end ?_
    exact lp_next (n, z8 + 1) ⟨hr, by (try simp only [List.length_append, List.length_cons, List.length_nil, List.length_set]); first | done | omega, by (try simp only [List.length_append, List.length_cons, List.length_nil, List.length_set]); first | done | omega⟩ (Nat.lt_succ_self _) ⟨rfl, rfl, rfl, rfl, trivial⟩ trivial rfl
  replace hr := bf_f hb1 hr
  have hb1p := dec_f hb1
  refine v_exit ?_
  refine then_exit ?_
  refine loop_exit ?_
  refine blk_hit ?_
  refine v_seq ?_
  refine v_reg ?_
  refine sy _ (zas rfl (ec rfl)) rfl rfl ?_
  refine s_end ?_
  refine v_ret ?_
  subst hr
  exact post_ret (rv (.tmp (eg rfl rfl)) rfl (.lf .nil) rfl .nil) (.ro (.ro .nil)) rfl
def n_slices_Index_stringL1 (a0 : List ByteArray) (a1 : ByteArray) : Nat → Nat → Int
  | 0, _ => default
  | n + 1, z8 => cond (decide (((z8 : Int)) < (((a0).length : Int)))) (atL (a0) (z8) (fun x1 => cond (decide ((a1) = (x1))) ((z8 : Int)) (n_slices_Index_stringL1 a0 a1 n (z8 + 1)))) (-1)
def n_slices_Index_string (a0 : List ByteArray) (a1 : ByteArray) : Int := n_slices_Index_stringL1 a0 a1 ((a0).length + 1) 0
set_option maxHeartbeats 4000000 in
set_option maxRecDepth 20000 in
theorem tr_n_slices_Index_string (a0 : List ByteArray) (a1 : ByteArray) (h0 : fitL fitS a0) (h1 : fitS a1) : Tr Tryz.prog 80 [.ro ⟨false, [.sl 1 (a0.map encS)]⟩, .ro ⟨false, [dS (a1)]⟩] [⟨false, [dI ((n_slices_Index_string a0 a1))]⟩] := by
  obtain ⟨r, hr⟩ : ∃ r, n_slices_Index_string a0 a1 = r := ⟨_, rfl⟩
  rw [hr]
  rw [n_slices_Index_string] at hr
  refine tr_go tabOk Tryz.func80 rfl rfl rfl rfl rfl (ov := [(0, .t ⟨false, [.d (.sl 1 (a0.map encS))]⟩), (1, .t ⟨false, [.d (dS (a1))]⟩)]) (hv := []) rfl rfl ?_
  refine v_seq ?_
  refine v_reg ?_
  refine sy _ (zas rfl (ec rfl)) rfl rfl ?_
  refine s_end ?_
  refine v_seq ?_
  refine v_seq ?_
  refine v_reg ?_
  refine sy _ (zmv rfl (e rfl rfl)) rfl rfl ?_
  have hB1 := (h0).1
  refine sy (.t ⟨false, [.d (dI ((a0).length : Int))]⟩) (zlm tabOk rfl rfl (e rfl rfl) .d) rfl rfl ?_
  refine sy _ (zmv rfl (ec rfl)) rfl rfl ?_
  refine s_end ?_
  refine v_block ?_
  refine v_lp (fun (q : Nat × Nat) => [(0, .t ⟨false, [.d (.sl 1 (a0.map encS))]⟩), (1, .t ⟨false, [.d (dS (a1))]⟩), (7, .t ⟨false, [.d (dI ((a0).length : Int))]⟩), (8, .t ⟨false, [.d (dI (q.2 : Int))]⟩)]) (fun q => []) (fun q => n_slices_Index_stringL1 a0 a1 q.1 q.2 = r ∧ (q.2 ≤ (a0).length) ∧ (q.2 + q.1 = (a0).length + 1)) (fun q => q.1) ((a0).length + 1, (0 : Nat)) ⟨hr, by (try dsimp only); (try simp only [List.length_nil, List.length_cons, List.length_replicate]); first | done | omega | exact Nat.zero_le _, by (try dsimp only); (try simp only [List.length_nil, List.length_cons, List.length_replicate]); first | done | omega | exact Nat.zero_le _⟩ ⟨rfl, rfl, rfl, rfl, trivial⟩ trivial rfl (fun q hq => ?_)
  obtain ⟨n, z8⟩ := q
  obtain ⟨hr, hi1x0, hi1x1⟩ := hq
  dsimp only at hr hi1x0 hi1x1
  show VWp _ _ _ (mk [(0, .t ⟨false, [.d (.sl 1 (a0.map encS))]⟩), (1, .t ⟨false, [.d (dS (a1))]⟩), (7, .t ⟨false, [.d (dI ((a0).length : Int))]⟩), (8, .t ⟨false, [.d (dI (z8 : Int))]⟩)] _ [])
  rcases n with _ | n
  · exfalso; omega
  rw [n_slices_Index_stringL1] at hr
  refine v_seq ?_
  refine v_reg ?_
  refine sy (.t ⟨false, [.d (dB (decide (((z8 : Int)) < (((a0).length : Int)))))]⟩) (y_bin rfl (e rfl rfl) (e rfl rfl) (fun _ => b_lss) rfl) rfl rfl ?_
  refine s_end ?_
  refine v_seq ?_
  refine v_cond (e rfl rfl) (fun hb1 => ?_) fun hb1 => ?_
  · replace hr := bf_t hb1 hr
    have hb1p := dec_t hb1
    refine v_skip ?_
    refine v_seq ?_
    refine v_block ?_
    refine v_seq ?_
    refine v_reg ?_
    refine sy _ (zmv rfl (e rfl rfl)) rfl rfl ?_
    refine sy _ (zas rfl (e rfl rfl)) rfl rfl ?_
    refine s_end ?_
    refine v_seq ?_
    refine v_reg ?_
    refine sy _ (zmv rfl (e rfl rfl)) rfl rfl ?_
    refine sy _ (zmv rfl (e rfl rfl)) rfl rfl ?_
    refine sy _ (zmv rfl (e rfl rfl)) rfl rfl ?_
    obtain ⟨x1, hx1⟩ : ∃ x, (a0)[z8]? = some x := some_of_lt (by omega)
    replace hr := at_step hx1 hr
    have hfx1 := h0.2 _ (List.mem_of_getElem? hx1)
    refine sy (.t ⟨false, [.fe 1 (a0.map encS) z8 0]⟩) (zix tabOk rfl rfl rfl (e rfl rfl) (e rfl rfl) (ltm_of_some hx1)) rfl rfl ?_
    refine sy (.t ⟨false, [.d (dS (x1))]⟩) (zle tabOk rfl (e rfl rfl) (getm hx1) rfl rfl) rfl rfl ?_
    refine sy (.t ⟨false, [.d (dB (decide ((a1) = (x1))))]⟩) (y_bin rfl (e rfl rfl) (e rfl rfl) (fun _ => b_seql) rfl) rfl rfl ?_
    refine s_end ?_
    refine v_cond (e rfl rfl) (fun hb2 => ?_) fun hb2 => ?_
    · replace hr := bf_t hb2 hr
      have hb2p := dec_t hb2
      refine v_seq ?_
      refine v_reg ?_
      refine sy _ (zmv rfl (e rfl rfl)) rfl rfl ?_
      refine sy _ (zas rfl (e rfl rfl)) rfl rfl ?_
      refine s_end ?_
      refine v_ret ?_
      subst hr
      exact post_ret (rv (.tmp (eg rfl rfl)) rfl (.lf .nil) rfl .nil) (.ro (.ro .nil)) rfl
    replace hr := bf_f hb2 hr
    have hb2p := dec_f hb2
    refine v_skip ?_
    refine blk_norm ?_
    refine v_reg ?_
    refine sy (.t ⟨false, [.d (dI (z8 + 1 : Int))]⟩) (y_bin rfl (e rfl rfl) (ec rfl) (fun _ => b_addn (by omega) (by omega)) rfl) rfl rfl ?_
    refine sy _ (zmv rfl (e rfl rfl)) rfl rfl ?_
    refine s_end ?_
    exact lp_next (n, z8 + 1) ⟨hr, by (try simp only [List.length_append, List.length_cons, List.length_nil, List.length_set]); first | done | omega, by (try simp only [List.length_append, List.length_cons, List.length_nil, List.length_set]); first | done | omega⟩ (Nat.lt_succ_self _) ⟨rfl, rfl, rfl, rfl, trivial⟩ trivial rfl
  replace hr := bf_f hb1 hr
  have hb1p := dec_f hb1
  refine v_exit ?_
  refine then_exit ?_
  refine loop_exit ?_
  refine blk_hit ?_
  refine v_seq ?_
  refine v_reg ?_
  refine sy _ (zas rfl (ec rfl)) rfl rfl ?_
  refine s_end ?_
  refine v_ret ?_
  subst hr
  exact post_ret (rv (.tmp (eg rfl rfl)) rfl (.lf .nil) rfl .nil) (.ro (.ro .nil)) rfl
def n_slices_Contains_int (a0 : List Int) (a1 : Int) : Bool := decide ((0) ≤ (n_slices_Index_int a0 a1))
set_option maxHeartbeats 4000000 in
set_option maxRecDepth 20000 in
theorem tr_n_slices_Contains_int (a0 : List Int) (a1 : Int) (h0 : fitJ a0) : Tr Tryz.prog 43 [.ro ⟨false, [.sl 1 (a0.map encI)]⟩, .ro ⟨false, [dI (a1)]⟩] [⟨false, [dB ((n_slices_Contains_int a0 a1))]⟩] := by
  obtain ⟨r, hr⟩ : ∃ r, n_slices_Contains_int a0 a1 = r := ⟨_, rfl⟩
  rw [hr]
  rw [n_slices_Contains_int] at hr
  refine tr_go tabOk Tryz.func43 rfl rfl rfl rfl rfl (ov := [(0, .t ⟨false, [.d (.sl 1 (a0.map encI))]⟩), (1, .t ⟨false, [.d (dI (a1))]⟩)]) (hv := []) rfl rfl ?_
  refine v_seq ?_
  refine v_reg ?_
  refine sy _ (zas rfl (ec rfl)) rfl rfl ?_
  refine s_end ?_
  refine v_seq ?_
  refine v_reg ?_
  refine sy _ (zmv rfl (e rfl rfl)) rfl rfl ?_
  refine sy _ (zmv rfl (e rfl rfl)) rfl rfl ?_
  have hB1 := (h0).1
  refine sd (.t ⟨false, [.d (dI (n_slices_Index_int a0 a1))]⟩) (zcd (.t ⟨false, [.d (dI (n_slices_Index_int a0 a1))]⟩) rfl (tr_n_slices_Index_int a0 a1 ⟨by (try simp only [List.length_append, List.length_cons, List.length_nil]); omega, trivial⟩) (ar (e rfl rfl) (.d .nil) (ar (e rfl rfl) (.d .nil) .nil)) rfl) rfl rfl rfl rfl ?_
  refine sy (.t ⟨false, [.d (dB (decide ((0) ≤ (n_slices_Index_int a0 a1))))]⟩) (y_bin rfl (e rfl rfl) (ec rfl) (fun _ => b_geq) rfl) rfl rfl ?_
  refine sy _ (zas rfl (e rfl rfl)) rfl rfl ?_
  refine s_end ?_
  refine v_ret ?_
  subst hr
  exact post_ret (rv (.tmp (eg rfl rfl)) rfl (.lf .nil) rfl .nil) (.ro (.ro .nil)) rfl
def n_slices_Contains_string (a0 : List ByteArray) (a1 : ByteArray) : Bool := decide ((0) ≤ (n_slices_Index_string a0 a1))
set_option maxHeartbeats 4000000 in
set_option maxRecDepth 20000 in
theorem tr_n_slices_Contains_string (a0 : List ByteArray) (a1 : ByteArray) (h0 : fitL fitS a0) (h1 : fitS a1) : Tr Tryz.prog 68 [.ro ⟨false, [.sl 1 (a0.map encS)]⟩, .ro ⟨false, [dS (a1)]⟩] [⟨false, [dB ((n_slices_Contains_string a0 a1))]⟩] := by
  obtain ⟨r, hr⟩ : ∃ r, n_slices_Contains_string a0 a1 = r := ⟨_, rfl⟩
  rw [hr]
  rw [n_slices_Contains_string] at hr
  refine tr_go tabOk Tryz.func68 rfl rfl rfl rfl rfl (ov := [(0, .t ⟨false, [.d (.sl 1 (a0.map encS))]⟩), (1, .t ⟨false, [.d (dS (a1))]⟩)]) (hv := []) rfl rfl ?_
  refine v_seq ?_
  refine v_reg ?_
  refine sy _ (zas rfl (ec rfl)) rfl rfl ?_
  refine s_end ?_
  refine v_seq ?_
  refine v_reg ?_
  refine sy _ (zmv rfl (e rfl rfl)) rfl rfl ?_
  refine sy _ (zmv rfl (e rfl rfl)) rfl rfl ?_
  refine sd (.t ⟨false, [.d (dI (n_slices_Index_string a0 a1))]⟩) (zcd (.t ⟨false, [.d (dI (n_slices_Index_string a0 a1))]⟩) rfl (tr_n_slices_Index_string a0 a1 h0 h1) (ar (e rfl rfl) (.d .nil) (ar (e rfl rfl) (.d .nil) .nil)) rfl) rfl rfl rfl rfl ?_
  refine sy (.t ⟨false, [.d (dB (decide ((0) ≤ (n_slices_Index_string a0 a1))))]⟩) (y_bin rfl (e rfl rfl) (ec rfl) (fun _ => b_geq) rfl) rfl rfl ?_
  refine sy _ (zas rfl (e rfl rfl)) rfl rfl ?_
  refine s_end ?_
  refine v_ret ?_
  subst hr
  exact post_ret (rv (.tmp (eg rfl rfl)) rfl (.lf .nil) rfl .nil) (.ro (.ro .nil)) rfl
def n_spec_l9HasL1 (a0 : List ByteArray) (a1 : ByteArray) : Nat → Nat → Bool
  | 0, _ => default
  | n + 1, i => cond (decide (((i : Int)) < (((a0).length : Int)))) (atL (a0) (i) (fun x1 => cond (decide ((x1) = (a1))) (true) (n_spec_l9HasL1 a0 a1 n (i + 1)))) (false)
def n_spec_l9Has (a0 : List ByteArray) (a1 : ByteArray) : Bool := n_spec_l9HasL1 a0 a1 ((a0).length + 1) 0
set_option maxHeartbeats 4000000 in
set_option maxRecDepth 20000 in
theorem tr_n_spec_l9Has (a0 : List ByteArray) (a1 : ByteArray) (h0 : fitL fitS a0) (h1 : fitS a1) : Tr Tryz.prog 60 [.ro ⟨false, [.sl 1 (a0.map encS)]⟩, .ro ⟨false, [dS (a1)]⟩] [⟨false, [dB ((n_spec_l9Has a0 a1))]⟩] := by
  obtain ⟨r, hr⟩ : ∃ r, n_spec_l9Has a0 a1 = r := ⟨_, rfl⟩
  rw [hr]
  rw [n_spec_l9Has] at hr
  refine tr_go tabOk Tryz.func60 rfl rfl rfl rfl rfl (ov := [(0, .t ⟨false, [.d (.sl 1 (a0.map encS))]⟩), (1, .t ⟨false, [.d (dS (a1))]⟩)]) (hv := []) rfl rfl ?_
  refine v_seq ?_
  refine v_reg ?_
  refine sy _ (zas rfl (ec rfl)) rfl rfl ?_
  refine s_end ?_
  refine v_seq ?_
  refine v_seq ?_
  refine v_reg ?_
  refine sy _ (zas rfl (ec rfl)) rfl rfl ?_
  refine s_end ?_
  refine v_block ?_
  refine v_lp (fun (q : Nat × Nat) => [(0, .t ⟨false, [.d (.sl 1 (a0.map encS))]⟩), (1, .t ⟨false, [.d (dS (a1))]⟩), (5, .t ⟨false, [.d (dI (q.2 : Int))]⟩)]) (fun q => []) (fun q => n_spec_l9HasL1 a0 a1 q.1 q.2 = r ∧ (q.2 ≤ (a0).length) ∧ (q.2 + q.1 = (a0).length + 1)) (fun q => q.1) ((a0).length + 1, (0 : Nat)) ⟨hr, by (try dsimp only); (try simp only [List.length_nil, List.length_cons, List.length_replicate]); first | done | omega | exact Nat.zero_le _, by (try dsimp only); (try simp only [List.length_nil, List.length_cons, List.length_replicate]); first | done | omega | exact Nat.zero_le _⟩ ⟨rfl, rfl, rfl, trivial⟩ trivial rfl (fun q hq => ?_)
  obtain ⟨n, i⟩ := q
  obtain ⟨hr, hi1x0, hi1x1⟩ := hq
  dsimp only at hr hi1x0 hi1x1
  show VWp _ _ _ (mk [(0, .t ⟨false, [.d (.sl 1 (a0.map encS))]⟩), (1, .t ⟨false, [.d (dS (a1))]⟩), (5, .t ⟨false, [.d (dI (i : Int))]⟩)] _ [])
  rcases n with _ | n
  · exfalso; omega
  rw [n_spec_l9HasL1] at hr
  refine v_seq ?_
  refine v_seq ?_
  refine v_reg ?_
  refine sy _ (zmv rfl (e rfl rfl)) rfl rfl ?_
  refine sy _ (zmv rfl (e rfl rfl)) rfl rfl ?_
  have hB1 := (h0).1
  refine sy (.t ⟨false, [.d (dI ((a0).length : Int))]⟩) (zlm tabOk rfl rfl (e rfl rfl) .d) rfl rfl ?_
  refine sy (.t ⟨false, [.d (dB (decide (((i : Int)) < (((a0).length : Int)))))]⟩) (y_bin rfl (e rfl rfl) (e rfl rfl) (fun _ => b_lss) rfl) rfl rfl ?_
  refine s_end ?_
  refine v_cond (e rfl rfl) (fun hb1 => ?_) fun hb1 => ?_
  · replace hr := bf_t hb1 hr
    have hb1p := dec_t hb1
    refine v_skip ?_
    refine v_seq ?_
    refine v_block ?_
    refine v_seq ?_
    refine v_reg ?_
    refine sy _ (zmv rfl (e rfl rfl)) rfl rfl ?_
    refine sy _ (zmv rfl (e rfl rfl)) rfl rfl ?_
    obtain ⟨x1, hx1⟩ : ∃ x, (a0)[i]? = some x := some_of_lt (by omega)
    replace hr := at_step hx1 hr
    have hfx1 := h0.2 _ (List.mem_of_getElem? hx1)
    refine sy (.t ⟨false, [.fe 1 (a0.map encS) i 0]⟩) (zix tabOk rfl rfl rfl (e rfl rfl) (e rfl rfl) (ltm_of_some hx1)) rfl rfl ?_
    refine sy (.t ⟨false, [.d (dS (x1))]⟩) (zle tabOk rfl (e rfl rfl) (getm hx1) rfl rfl) rfl rfl ?_
    refine sy _ (zmv rfl (e rfl rfl)) rfl rfl ?_
    refine sy (.t ⟨false, [.d (dB (decide ((x1) = (a1))))]⟩) (y_bin rfl (e rfl rfl) (e rfl rfl) (fun _ => b_seql) rfl) rfl rfl ?_
    refine s_end ?_
    refine v_cond (e rfl rfl) (fun hb2 => ?_) fun hb2 => ?_
    · replace hr := bf_t hb2 hr
      have hb2p := dec_t hb2
      refine v_seq ?_
      refine v_reg ?_
      refine sy _ (zas rfl (ec rfl)) rfl rfl ?_
      refine s_end ?_
      refine v_ret ?_
      subst hr
      exact post_ret (rv (.tmp (eg rfl rfl)) rfl (.lf .nil) rfl .nil) (.ro (.ro .nil)) rfl
    replace hr := bf_f hb2 hr
    have hb2p := dec_f hb2
    refine v_skip ?_
    refine blk_norm ?_
    refine v_reg ?_
    refine sy _ (zmv rfl (e rfl rfl)) rfl rfl ?_
    refine sy (.t ⟨false, [.d (dI (i + 1 : Int))]⟩) (y_bin rfl (e rfl rfl) (ec rfl) (fun _ => b_addn (by omega) (by omega)) rfl) rfl rfl ?_
    refine sy _ (zas rfl (e rfl rfl)) rfl rfl ?_
    refine s_end ?_
    exact lp_next (n, i + 1) ⟨hr, by (try simp only [List.length_append, List.length_cons, List.length_nil, List.length_set]); first | done | omega, by (try simp only [List.length_append, List.length_cons, List.length_nil, List.length_set]); first | done | omega⟩ (Nat.lt_succ_self _) ⟨rfl, rfl, rfl, trivial⟩ trivial rfl
  replace hr := bf_f hb1 hr
  have hb1p := dec_f hb1
  refine v_exit ?_
  refine then_exit ?_
  refine loop_exit ?_
  refine blk_hit ?_
  refine v_seq ?_
  refine v_reg ?_
  refine sy _ (zas rfl (ec rfl)) rfl rfl ?_
  refine s_end ?_
  refine v_ret ?_
  subst hr
  exact post_ret (rv (.tmp (eg rfl rfl)) rfl (.lf .nil) rfl .nil) (.ro (.ro .nil)) rfl
def n_spec_l9HasIntL1 (a0 : List Int) (a1 : Int) : Nat → Nat → Bool
  | 0, _ => default
  | n + 1, i => cond (decide (((i : Int)) < (((a0).length : Int)))) (atL (a0) (i) (fun x1 => cond (decide ((x1) = (a1))) (true) (n_spec_l9HasIntL1 a0 a1 n (i + 1)))) (false)
def n_spec_l9HasInt (a0 : List Int) (a1 : Int) : Bool := n_spec_l9HasIntL1 a0 a1 ((a0).length + 1) 0
set_option maxHeartbeats 4000000 in
set_option maxRecDepth 20000 in
theorem tr_n_spec_l9HasInt (a0 : List Int) (a1 : Int) (h0 : fitJ a0) : Tr Tryz.prog 36 [.ro ⟨false, [.sl 1 (a0.map encI)]⟩, .ro ⟨false, [dI (a1)]⟩] [⟨false, [dB ((n_spec_l9HasInt a0 a1))]⟩] := by
  obtain ⟨r, hr⟩ : ∃ r, n_spec_l9HasInt a0 a1 = r := ⟨_, rfl⟩
  rw [hr]
  rw [n_spec_l9HasInt] at hr
  refine tr_go tabOk Tryz.func36 rfl rfl rfl rfl rfl (ov := [(0, .t ⟨false, [.d (.sl 1 (a0.map encI))]⟩), (1, .t ⟨false, [.d (dI (a1))]⟩)]) (hv := []) rfl rfl ?_
  refine v_seq ?_
  refine v_reg ?_
  refine sy _ (zas rfl (ec rfl)) rfl rfl ?_
  refine s_end ?_
  refine v_seq ?_
  refine v_seq ?_
  refine v_reg ?_
  refine sy _ (zas rfl (ec rfl)) rfl rfl ?_
  refine s_end ?_
  refine v_block ?_
  refine v_lp (fun (q : Nat × Nat) => [(0, .t ⟨false, [.d (.sl 1 (a0.map encI))]⟩), (1, .t ⟨false, [.d (dI (a1))]⟩), (5, .t ⟨false, [.d (dI (q.2 : Int))]⟩)]) (fun q => []) (fun q => n_spec_l9HasIntL1 a0 a1 q.1 q.2 = r ∧ (q.2 ≤ (a0).length) ∧ (q.2 + q.1 = (a0).length + 1)) (fun q => q.1) ((a0).length + 1, (0 : Nat)) ⟨hr, by (try dsimp only); (try simp only [List.length_nil, List.length_cons, List.length_replicate]); first | done | omega | exact Nat.zero_le _, by (try dsimp only); (try simp only [List.length_nil, List.length_cons, List.length_replicate]); first | done | omega | exact Nat.zero_le _⟩ ⟨rfl, rfl, rfl, trivial⟩ trivial rfl (fun q hq => ?_)
  obtain ⟨n, i⟩ := q
  obtain ⟨hr, hi1x0, hi1x1⟩ := hq
  dsimp only at hr hi1x0 hi1x1
  show VWp _ _ _ (mk [(0, .t ⟨false, [.d (.sl 1 (a0.map encI))]⟩), (1, .t ⟨false, [.d (dI (a1))]⟩), (5, .t ⟨false, [.d (dI (i : Int))]⟩)] _ [])
  rcases n with _ | n
  · exfalso; omega
  rw [n_spec_l9HasIntL1] at hr
  refine v_seq ?_
  refine v_seq ?_
  refine v_reg ?_
  refine sy _ (zmv rfl (e rfl rfl)) rfl rfl ?_
  refine sy _ (zmv rfl (e rfl rfl)) rfl rfl ?_
  have hB1 := (h0).1
  refine sy (.t ⟨false, [.d (dI ((a0).length : Int))]⟩) (zlm tabOk rfl rfl (e rfl rfl) .d) rfl rfl ?_
  refine sy (.t ⟨false, [.d (dB (decide (((i : Int)) < (((a0).length : Int)))))]⟩) (y_bin rfl (e rfl rfl) (e rfl rfl) (fun _ => b_lss) rfl) rfl rfl ?_
  refine s_end ?_
  refine v_cond (e rfl rfl) (fun hb1 => ?_) fun hb1 => ?_
  · replace hr := bf_t hb1 hr
    have hb1p := dec_t hb1
    refine v_skip ?_
    refine v_seq ?_
    refine v_block ?_
    refine v_seq ?_
    refine v_reg ?_
    refine sy _ (zmv rfl (e rfl rfl)) rfl rfl ?_
    refine sy _ (zmv rfl (e rfl rfl)) rfl rfl ?_
    obtain ⟨x1, hx1⟩ : ∃ x, (a0)[i]? = some x := some_of_lt (by omega)
    replace hr := at_step hx1 hr
    refine sy (.t ⟨false, [.fe 1 (a0.map encI) i 0]⟩) (zix tabOk rfl rfl rfl (e rfl rfl) (e rfl rfl) (ltm_of_some hx1)) rfl rfl ?_
    refine sy (.t ⟨false, [.d (dI (x1))]⟩) (zle tabOk rfl (e rfl rfl) (getm hx1) rfl rfl) rfl rfl ?_
    refine sy _ (zmv rfl (e rfl rfl)) rfl rfl ?_
    refine sy (.t ⟨false, [.d (dB (decide ((x1) = (a1))))]⟩) (y_bin rfl (e rfl rfl) (e rfl rfl) (fun _ => b_eql) rfl) rfl rfl ?_
    refine s_end ?_
    refine v_cond (e rfl rfl) (fun hb2 => ?_) fun hb2 => ?_
    · replace hr := bf_t hb2 hr
      have hb2p := dec_t hb2
      refine v_seq ?_
      refine v_reg ?_
      refine sy _ (zas rfl (ec rfl)) rfl rfl ?_
      refine s_end ?_
      refine v_ret ?_
      subst hr
      exact post_ret (rv (.tmp (eg rfl rfl)) rfl (.lf .nil) rfl .nil) (.ro (.ro .nil)) rfl
    replace hr := bf_f hb2 hr
    have hb2p := dec_f hb2
    refine v_skip ?_
    refine blk_norm ?_
    refine v_reg ?_
    refine sy _ (zmv rfl (e rfl rfl)) rfl rfl ?_
    refine sy (.t ⟨false, [.d (dI (i + 1 : Int))]⟩) (y_bin rfl (e rfl rfl) (ec rfl) (fun _ => b_addn (by omega) (by omega)) rfl) rfl rfl ?_
    refine sy _ (zas rfl (e rfl rfl)) rfl rfl ?_
    refine s_end ?_
    exact lp_next (n, i + 1) ⟨hr, by (try simp only [List.length_append, List.length_cons, List.length_nil, List.length_set]); first | done | omega, by (try simp only [List.length_append, List.length_cons, List.length_nil, List.length_set]); first | done | omega⟩ (Nat.lt_succ_self _) ⟨rfl, rfl, rfl, trivial⟩ trivial rfl
  replace hr := bf_f hb1 hr
  have hb1p := dec_f hb1
  refine v_exit ?_
  refine then_exit ?_
  refine loop_exit ?_
  refine blk_hit ?_
  refine v_seq ?_
  refine v_reg ?_
  refine sy _ (zas rfl (ec rfl)) rfl rfl ?_
  refine s_end ?_
  refine v_ret ?_
  subst hr
  exact post_ret (rv (.tmp (eg rfl rfl)) rfl (.lf .nil) rfl .nil) (.ro (.ro .nil)) rfl
def n_spec_UniqL1 (a0 : List Int) : Nat → (List Int) → Nat → (List Int)
  | 0, _, _ => default
  | n + 1, l0, i => cond (decide (((i : Int)) < (((a0).length : Int)))) (atL (a0) (i) (fun x1 => cond (!(n_spec_l9HasInt l0 x1)) (n_spec_UniqL1 a0 n (l0 ++ ([x1] : List Int)) (i + 1)) (n_spec_UniqL1 a0 n l0 (i + 1)))) (l0)
def n_spec_Uniq (a0 : List Int) : List Int := n_spec_UniqL1 a0 ((a0).length + 1) (([] : List Int)) 0
set_option maxHeartbeats 4000000 in
set_option maxRecDepth 20000 in
theorem tr_n_spec_Uniq (a0 : List Int) (h0 : fitJ a0) : Tr Tryz.prog 19 [.ro ⟨false, [.sl 1 (a0.map encI)]⟩] [⟨false, [.sl 1 (((n_spec_Uniq a0)).map encI)]⟩] := by
  obtain ⟨r, hr⟩ : ∃ r, n_spec_Uniq a0 = r := ⟨_, rfl⟩
  rw [hr]
  rw [n_spec_Uniq] at hr
  refine tr_go tabOk Tryz.func19 rfl rfl rfl rfl rfl (ov := [(0, .t ⟨false, [.d (.sl 1 (a0.map encI))]⟩)]) (hv := []) rfl rfl ?_
  refine v_seq ?_
  refine v_reg ?_
  refine sy _ (zas rfl (en 1)) rfl rfl ?_
  refine s_end ?_
  refine v_seq ?_
  refine v_reg ?_
  refine sbk 0 (.t ⟨false, [.sr 0 1 0 ((([] : List Int).map encI).length) ((([] : List Int).map encI).length)]⟩) (.row 1 (([] : List Int).map encI) true 1 0) (zbu tabOk rfl rfl rfl rfl .nil rfl rfl) rfl rfl ?_
  refine sy _ (zas rfl (e rfl rfl)) rfl rfl ?_
  refine s_end ?_
  refine v_seq ?_
  refine v_seq ?_
  refine v_reg ?_
  refine sy _ (zas rfl (ec rfl)) rfl rfl ?_
  refine s_end ?_
  refine v_block ?_
  refine v_lp (fun (q : Nat × List Int × Nat × Nat × Nat) => [(0, .t ⟨false, [.d (.sl 1 (a0.map encI))]⟩), (3, .t ⟨false, [.sr 0 q.2.2.2.1 0 (((q.2.1).map encI).length) (((q.2.1).map encI).length)]⟩), (4, .t ⟨false, [.d (dI (q.2.2.1 : Int))]⟩)]) (fun q => [(0, .row 1 ((q.2.1).map encI) true q.2.2.2.1 q.2.2.2.2)]) (fun q => n_spec_UniqL1 a0 q.1 q.2.1 q.2.2.1 = r ∧ (q.2.2.1 ≤ (a0).length) ∧ (q.2.2.1 + q.1 = (a0).length + 1) ∧ (q.2.1.length ≤ q.2.2.1)) (fun q => q.1) ((a0).length + 1, (([] : List Int) : List Int), (0 : Nat), 1, 0) ⟨hr, by (try dsimp only); (try simp only [List.length_nil, List.length_cons, List.length_replicate]); first | done | omega | exact Nat.zero_le _, by (try dsimp only); (try simp only [List.length_nil, List.length_cons, List.length_replicate]); first | done | omega | exact Nat.zero_le _, by (try dsimp only); (try simp only [List.length_nil, List.length_cons, List.length_replicate]); first | done | omega | exact Nat.zero_le _⟩ ⟨rfl, rfl, rfl, trivial⟩ ⟨rfl, trivial⟩ rfl (fun q hq => ?_)
  obtain ⟨n, l0, i, g0, w0⟩ := q
  obtain ⟨hr, hi1x0, hi1x1, hi1x2⟩ := hq
  dsimp only at hr hi1x0 hi1x1 hi1x2
  show VWp _ _ _ (mk [(0, .t ⟨false, [.d (.sl 1 (a0.map encI))]⟩), (3, .t ⟨false, [.sr 0 g0 0 (((l0).map encI).length) (((l0).map encI).length)]⟩), (4, .t ⟨false, [.d (dI (i : Int))]⟩)] _ [(0, .row 1 ((l0).map encI) true g0 w0)])
  rcases n with _ | n
  · exfalso; omega
  rw [n_spec_UniqL1] at hr
  refine v_seq ?_
  refine v_seq ?_
  refine v_reg ?_
  refine sy _ (zmv rfl (e rfl rfl)) rfl rfl ?_
  refine sy _ (zmv rfl (e rfl rfl)) rfl rfl ?_
  have hB1 := (h0).1
  refine sy (.t ⟨false, [.d (dI ((a0).length : Int))]⟩) (zlm tabOk rfl rfl (e rfl rfl) .d) rfl rfl ?_
  refine sy (.t ⟨false, [.d (dB (decide (((i : Int)) < (((a0).length : Int)))))]⟩) (y_bin rfl (e rfl rfl) (e rfl rfl) (fun _ => b_lss) rfl) rfl rfl ?_
  refine s_end ?_
  refine v_cond (e rfl rfl) (fun hb1 => ?_) fun hb1 => ?_
  · replace hr := bf_t hb1 hr
    have hb1p := dec_t hb1
    refine v_skip ?_
    refine v_seq ?_
    refine v_block ?_
    refine v_seq ?_
    refine v_reg ?_
    refine sy _ (zmv rfl (e rfl rfl)) rfl rfl ?_
    refine sy _ (zmv rfl (e rfl rfl)) rfl rfl ?_
    refine sy _ (zmv rfl (e rfl rfl)) rfl rfl ?_
    obtain ⟨x1, hx1⟩ : ∃ x, (a0)[i]? = some x := some_of_lt (by omega)
    replace hr := at_step hx1 hr
    refine sy (.t ⟨false, [.fe 1 (a0.map encI) i 0]⟩) (zix tabOk rfl rfl rfl (e rfl rfl) (e rfl rfl) (ltm_of_some hx1)) rfl rfl ?_
    refine sy (.t ⟨false, [.d (dI (x1))]⟩) (zle tabOk rfl (e rfl rfl) (getm hx1) rfl rfl) rfl rfl ?_
    refine sd (.t ⟨false, [.d (dB (n_spec_l9HasInt l0 x1))]⟩) (zcall 3 (.t ⟨false, [.d (dB (n_spec_l9HasInt l0 x1))]⟩) [] rfl (tr_n_spec_l9HasInt l0 x1 ⟨by (try simp only [List.length_append, List.length_cons, List.length_nil]); omega, trivial⟩) (ar (e rfl rfl) (.sr rfl le_all take_all .nil) (ar (e rfl rfl) (.d .nil) .nil)) rfl rfl rfl) rfl rfl rfl rfl ?_
    refine sy (.t ⟨false, [.d (dB (!(n_spec_l9HasInt l0 x1)))]⟩) (y_un rfl (e rfl rfl) (fun _ => u_not) rfl) rfl rfl ?_
    refine s_end ?_
    refine v_cond (e rfl rfl) (fun hb2 => ?_) fun hb2 => ?_
    · replace hr := bf_t hb2 hr
      have hn3 := not_t hb2
      refine v_reg ?_
      refine sy _ (zmv rfl (e rfl rfl)) rfl rfl ?_
      refine sy _ (zmv rfl (e rfl rfl)) rfl rfl ?_
      refine sy _ (zmv rfl (e rfl rfl)) rfl rfl ?_
      refine sy (.t ⟨false, [.fe 1 (a0.map encI) i 0]⟩) (zix tabOk rfl rfl rfl (e rfl rfl) (e rfl rfl) (ltm_of_some hx1)) rfl rfl ?_
      refine sy (.t ⟨false, [.d (dI (x1))]⟩) (zle tabOk rfl (e rfl rfl) (getm hx1) rfl rfl) rfl rfl ?_
      refine sbk 3 (.t ⟨false, [.sr 3 1 0 ((([x1] : List Int).map encI).length) ((([x1] : List Int).map encI).length)]⟩) (.row 1 (([x1] : List Int).map encI) true 1 0) (zbu tabOk rfl rfl rfl rfl (pd0 (e rfl rfl) rfl (.lf .nil) rfl .nil) rfl rfl) rfl rfl ?_
      refine sa 0 (.t ⟨false, [.sr 0 (g0 + 1) 0 (((l0 ++ ([x1] : List Int)).map encI).length) (((l0 ++ ([x1] : List Int)).map encI).length)]⟩) (.row 1 ((l0 ++ ([x1] : List Int)).map encI) true (g0 + 1) (w0 + 1)) (zap tabOk rfl rfl rfl rfl (e rfl rfl) rfl rfl (e rfl rfl) (.flat rfl le_all take_all (flat_I _)) (ap_bigI (by simp only [List.length_map, List.length_cons, List.length_nil]; omega) rfl) map_app len_app) rfl rfl ?_
      refine sy _ (zas rfl (e rfl rfl)) rfl rfl ?_
      refine s_end ?_
      refine blk_norm ?_
      refine v_reg ?_
      refine sy _ (zmv rfl (e rfl rfl)) rfl rfl ?_
      refine sy (.t ⟨false, [.d (dI (i + 1 : Int))]⟩) (y_bin rfl (e rfl rfl) (ec rfl) (fun _ => b_addn (by omega) (by omega)) rfl) rfl rfl ?_
      refine sy _ (zas rfl (e rfl rfl)) rfl rfl ?_
      refine s_end ?_
      exact lp_next (n, l0 ++ ([x1] : List Int), i + 1, g0 + 1, w0 + 1) ⟨hr, by (try simp only [List.length_append, List.length_cons, List.length_nil, List.length_set]); first | done | omega, by (try simp only [List.length_append, List.length_cons, List.length_nil, List.length_set]); first | done | omega, by (try simp only [List.length_append, List.length_cons, List.length_nil, List.length_set]); first | done | omega⟩ (Nat.lt_succ_self _) ⟨rfl, rfl, rfl, trivial⟩ ⟨rfl, trivial⟩ rfl
    replace hr := bf_f hb2 hr
    have hn4 := not_f hb2
    refine v_skip ?_
    refine blk_norm ?_
    refine v_reg ?_
    refine sy _ (zmv rfl (e rfl rfl)) rfl rfl ?_
    refine sy (.t ⟨false, [.d (dI (i + 1 : Int))]⟩) (y_bin rfl (e rfl rfl) (ec rfl) (fun _ => b_addn (by omega) (by omega)) rfl) rfl rfl ?_
    refine sy _ (zas rfl (e rfl rfl)) rfl rfl ?_
    refine s_end ?_
    exact lp_next (n, l0, i + 1, g0, w0) ⟨hr, by (try simp only [List.length_append, List.length_cons, List.length_nil, List.length_set]); first | done | omega, by (try simp only [List.length_append, List.length_cons, List.length_nil, List.length_set]); first | done | omega, by (try simp only [List.length_append, List.length_cons, List.length_nil, List.length_set]); first | done | omega⟩ (Nat.lt_succ_self _) ⟨rfl, rfl, rfl, trivial⟩ ⟨rfl, trivial⟩ rfl
  replace hr := bf_f hb1 hr
  have hb1p := dec_f hb1
  refine v_exit ?_
  refine then_exit ?_
  refine loop_exit ?_
  refine blk_hit ?_
  refine v_seq ?_
  refine v_reg ?_
  refine sy _ (zmv rfl (e rfl rfl)) rfl rfl ?_
  refine sy _ (zas rfl (e rfl rfl)) rfl rfl ?_
  refine s_end ?_
  refine v_ret ?_
  subst hr
  exact post_ret (rv (.tmp (eg rfl rfl)) rfl (.sr rfl le_all take_all .nil) rfl .nil) (.ro .nil) rfl
def n_impl_UniqL1 (a0 : List Int) : Nat → (List Int) → Nat → (List Int)
  | 0, _, _ => default
  | n + 1, l0, z9 => cond (decide (((z9 : Int)) < (((a0).length : Int)))) (atL (a0) (z9) (fun x1 => cond (!(n_slices_Contains_int l0 x1)) (n_impl_UniqL1 a0 n (l0 ++ ([x1] : List Int)) (z9 + 1)) (n_impl_UniqL1 a0 n l0 (z9 + 1)))) (l0)
def n_impl_Uniq (a0 : List Int) : List Int := n_impl_UniqL1 a0 ((a0).length + 1) (([] : List Int)) 0
set_option maxHeartbeats 4000000 in
set_option maxRecDepth 20000 in
theorem tr_n_impl_Uniq (a0 : List Int) (h0 : fitJ a0) : Tr Tryz.prog 26 [.ro ⟨false, [.sl 1 (a0.map encI)]⟩] [⟨false, [.sl 1 (((n_impl_Uniq a0)).map encI)]⟩] := by
  obtain ⟨r, hr⟩ : ∃ r, n_impl_Uniq a0 = r := ⟨_, rfl⟩
  rw [hr]
  rw [n_impl_Uniq] at hr
  refine tr_go tabOk Tryz.func26 rfl rfl rfl rfl rfl (ov := [(0, .t ⟨false, [.d (.sl 1 (a0.map encI))]⟩)]) (hv := []) rfl rfl ?_
  refine v_seq ?_
  refine v_reg ?_
  refine sy _ (zas rfl (en 1)) rfl rfl ?_
  refine s_end ?_
  refine v_seq ?_
  refine v_reg ?_
  refine sbk 0 (.t ⟨false, [.sr 0 1 0 ((([] : List Int).map encI).length) ((([] : List Int).map encI).length)]⟩) (.row 1 (([] : List Int).map encI) true 1 0) (zbu tabOk rfl rfl rfl rfl .nil rfl rfl) rfl rfl ?_
  refine sy _ (zas rfl (e rfl rfl)) rfl rfl ?_
  refine s_end ?_
  refine v_seq ?_
  refine v_seq ?_
  refine v_reg ?_
  refine sy _ (zmv rfl (e rfl rfl)) rfl rfl ?_
  have hB1 := (h0).1
  refine sy (.t ⟨false, [.d (dI ((a0).length : Int))]⟩) (zlm tabOk rfl rfl (e rfl rfl) .d) rfl rfl ?_
  refine sy _ (zmv rfl (ec rfl)) rfl rfl ?_
  refine s_end ?_
  refine v_block ?_
  refine v_lp (fun (q : Nat × List Int × Nat × Nat × Nat) => [(3, .t ⟨false, [.sr 0 q.2.2.2.1 0 (((q.2.1).map encI).length) (((q.2.1).map encI).length)]⟩), (7, .t ⟨false, [.d (.sl 1 (a0.map encI))]⟩), (8, .t ⟨false, [.d (dI ((a0).length : Int))]⟩), (9, .t ⟨false, [.d (dI (q.2.2.1 : Int))]⟩)]) (fun q => [(0, .row 1 ((q.2.1).map encI) true q.2.2.2.1 q.2.2.2.2)]) (fun q => n_impl_UniqL1 a0 q.1 q.2.1 q.2.2.1 = r ∧ (q.2.2.1 ≤ (a0).length) ∧ (q.2.2.1 + q.1 = (a0).length + 1) ∧ (q.2.1.length ≤ q.2.2.1)) (fun q => q.1) ((a0).length + 1, (([] : List Int) : List Int), (0 : Nat), 1, 0) ⟨hr, by (try dsimp only); (try simp only [List.length_nil, List.length_cons, List.length_replicate]); first | done | omega | exact Nat.zero_le _, by (try dsimp only); (try simp only [List.length_nil, List.length_cons, List.length_replicate]); first | done | omega | exact Nat.zero_le _, by (try dsimp only); (try simp only [List.length_nil, List.length_cons, List.length_replicate]); first | done | omega | exact Nat.zero_le _⟩ ⟨rfl, rfl, rfl, rfl, trivial⟩ ⟨rfl, trivial⟩ rfl (fun q hq => ?_)
  obtain ⟨n, l0, z9, g0, w0⟩ := q
  obtain ⟨hr, hi1x0, hi1x1, hi1x2⟩ := hq
  dsimp only at hr hi1x0 hi1x1 hi1x2
  show VWp _ _ _ (mk [(3, .t ⟨false, [.sr 0 g0 0 (((l0).map encI).length) (((l0).map encI).length)]⟩), (7, .t ⟨false, [.d (.sl 1 (a0.map encI))]⟩), (8, .t ⟨false, [.d (dI ((a0).length : Int))]⟩), (9, .t ⟨false, [.d (dI (z9 : Int))]⟩)] _ [(0, .row 1 ((l0).map encI) true g0 w0)])
  rcases n with _ | n
  · exfalso; omega
  rw [n_impl_UniqL1] at hr
  refine v_seq ?_
  refine v_reg ?_
  refine sy (.t ⟨false, [.d (dB (decide (((z9 : Int)) < (((a0).length : Int)))))]⟩) (y_bin rfl (e rfl rfl) (e rfl rfl) (fun _ => b_lss) rfl) rfl rfl ?_
  refine s_end ?_
  refine v_seq ?_
  refine v_cond (e rfl rfl) (fun hb1 => ?_) fun hb1 => ?_
  · replace hr := bf_t hb1 hr
    have hb1p := dec_t hb1
    refine v_skip ?_
    refine v_seq ?_
    refine v_block ?_
    refine v_seq ?_
    refine v_reg ?_
    obtain ⟨x1, hx1⟩ : ∃ x, (a0)[z9]? = some x := some_of_lt (by omega)
    replace hr := at_step hx1 hr
    refine sy (.t ⟨false, [.fe 1 (a0.map encI) z9 0]⟩) (zix tabOk rfl rfl rfl (e rfl rfl) (e rfl rfl) (ltm_of_some hx1)) rfl rfl ?_
    refine sy (.t ⟨false, [.d (dI (x1))]⟩) (zle tabOk rfl (e rfl rfl) (getm hx1) rfl rfl) rfl rfl ?_
    refine sy _ (zas rfl (e rfl rfl)) rfl rfl ?_
    refine s_end ?_
    refine v_seq ?_
    refine v_reg ?_
    refine sy _ (zmv rfl (e rfl rfl)) rfl rfl ?_
    refine sy _ (zmv rfl (e rfl rfl)) rfl rfl ?_
    refine sd (.t ⟨false, [.d (dB (n_slices_Contains_int l0 x1))]⟩) (zcall 3 (.t ⟨false, [.d (dB (n_slices_Contains_int l0 x1))]⟩) [] rfl (tr_n_slices_Contains_int l0 x1 ⟨by (try simp only [List.length_append, List.length_cons, List.length_nil]); omega, trivial⟩) (ar (e rfl rfl) (.sr rfl le_all take_all .nil) (ar (e rfl rfl) (.d .nil) .nil)) rfl rfl rfl) rfl rfl rfl rfl ?_
    refine sy (.t ⟨false, [.d (dB (!(n_slices_Contains_int l0 x1)))]⟩) (y_un rfl (e rfl rfl) (fun _ => u_not) rfl) rfl rfl ?_
    refine s_end ?_
    refine v_cond (e rfl rfl) (fun hb2 => ?_) fun hb2 => ?_
    · replace hr := bf_t hb2 hr
      have hn3 := not_t hb2
      refine v_reg ?_
      refine sy _ (zmv rfl (e rfl rfl)) rfl rfl ?_
      refine sy _ (zmv rfl (e rfl rfl)) rfl rfl ?_
      refine sbk 3 (.t ⟨false, [.sr 3 1 0 ((([x1] : List Int).map encI).length) ((([x1] : List Int).map encI).length)]⟩) (.row 1 (([x1] : List Int).map encI) true 1 0) (zbu tabOk rfl rfl rfl rfl (pd0 (e rfl rfl) rfl (.lf .nil) rfl .nil) rfl rfl) rfl rfl ?_
      refine sa 0 (.t ⟨false, [.sr 0 (g0 + 1) 0 (((l0 ++ ([x1] : List Int)).map encI).length) (((l0 ++ ([x1] : List Int)).map encI).length)]⟩) (.row 1 ((l0 ++ ([x1] : List Int)).map encI) true (g0 + 1) (w0 + 1)) (zap tabOk rfl rfl rfl rfl (e rfl rfl) rfl rfl (e rfl rfl) (.flat rfl le_all take_all (flat_I _)) (ap_bigI (by simp only [List.length_map, List.length_cons, List.length_nil]; omega) rfl) map_app len_app) rfl rfl ?_
      refine sy _ (zas rfl (e rfl rfl)) rfl rfl ?_
      refine s_end ?_
      refine blk_norm ?_
      refine v_reg ?_
      refine sy (.t ⟨false, [.d (dI (z9 + 1 : Int))]⟩) (y_bin rfl (e rfl rfl) (ec rfl) (fun _ => b_addn (by omega) (by omega)) rfl) rfl rfl ?_
      refine sy _ (zmv rfl (e rfl rfl)) rfl rfl ?_
      refine s_end ?_
      exact lp_next (n, l0 ++ ([x1] : List Int), z9 + 1, g0 + 1, w0 + 1) ⟨hr, by (try simp only [List.length_append, List.length_cons, List.length_nil, List.length_set]); first | done | omega, by (try simp only [List.length_append, List.length_cons, List.length_nil, List.length_set]); first | done | omega, by (try simp only [List.length_append, List.length_cons, List.length_nil, List.length_set]); first | done | omega⟩ (Nat.lt_succ_self _) ⟨rfl, rfl, rfl, rfl, trivial⟩ ⟨rfl, trivial⟩ rfl
    replace hr := bf_f hb2 hr
    have hn4 := not_f hb2
    refine v_skip ?_
    refine blk_norm ?_
    refine v_reg ?_
    refine sy (.t ⟨false, [.d (dI (z9 + 1 : Int))]⟩) (y_bin rfl (e rfl rfl) (ec rfl) (fun _ => b_addn (by omega) (by omega)) rfl) rfl rfl ?_
    refine sy _ (zmv rfl (e rfl rfl)) rfl rfl ?_
    refine s_end ?_
    exact lp_next (n, l0, z9 + 1, g0, w0) ⟨hr, by (try simp only [List.length_append, List.length_cons, List.length_nil, List.length_set]); first | done | omega, by (try simp only [List.length_append, List.length_cons, List.length_nil, List.length_set]); first | done | omega, by (try simp only [List.length_append, List.length_cons, List.length_nil, List.length_set]); first | done | omega⟩ (Nat.lt_succ_self _) ⟨rfl, rfl, rfl, rfl, trivial⟩ ⟨rfl, trivial⟩ rfl
  replace hr := bf_f hb1 hr
  have hb1p := dec_f hb1
  refine v_exit ?_
  refine then_exit ?_
  refine loop_exit ?_
  refine blk_hit ?_
  refine v_seq ?_
  refine v_reg ?_
  refine sy _ (zmv rfl (e rfl rfl)) rfl rfl ?_
  refine sy _ (zas rfl (e rfl rfl)) rfl rfl ?_
  refine s_end ?_
  refine v_ret ?_
  subst hr
  exact post_ret (rv (.tmp (eg rfl rfl)) rfl (.sr rfl le_all take_all .nil) rfl .nil) (.ro .nil) rfl
def n_spec_HostsL1 (a0 : List Record) : Nat → (List ByteArray) → Nat → (List ByteArray)
  | 0, _, _ => default
  | n + 1, l0, i => cond (decide (((i : Int)) < (((a0).length : Int)))) (atL (a0) (i) (fun x1 => cond (decide ((x1.Typ) = (2))) (cond (!(n_spec_l9Has l0 x1.Host)) (n_spec_HostsL1 a0 n (l0 ++ ([x1.Host] : List ByteArray)) (i + 1)) (n_spec_HostsL1 a0 n l0 (i + 1))) (n_spec_HostsL1 a0 n l0 (i + 1)))) (l0)
def n_spec_Hosts (a0 : List Record) : List ByteArray := n_spec_HostsL1 a0 ((a0).length + 1) (([] : List ByteArray)) 0
set_option maxHeartbeats 4000000 in
set_option maxRecDepth 20000 in
theorem tr_n_spec_Hosts (a0 : List Record) (h0 : fitL Record.Fit a0) : Tr Tryz.prog 38 [.ro ⟨false, [.sl 6 (a0.map Record.cells)]⟩] [⟨false, [.sl 1 (((n_spec_Hosts a0)).map encS)]⟩] := by
  obtain ⟨r, hr⟩ : ∃ r, n_spec_Hosts a0 = r := ⟨_, rfl⟩
  rw [hr]
  rw [n_spec_Hosts] at hr
  refine tr_go tabOk Tryz.func38 rfl rfl rfl rfl rfl (ov := [(0, .t ⟨false, [.d (.sl 6 (a0.map Record.cells))]⟩)]) (hv := []) rfl rfl ?_
  refine v_seq ?_
  refine v_reg ?_
  refine sy _ (zas rfl (en 1)) rfl rfl ?_
  refine s_end ?_
  refine v_seq ?_
  refine v_reg ?_
  refine sbk 0 (.t ⟨false, [.sr 0 1 0 ((([] : List ByteArray).map encS).length) ((([] : List ByteArray).map encS).length)]⟩) (.row 1 (([] : List ByteArray).map encS) true 1 0) (zbu tabOk rfl rfl rfl rfl .nil rfl rfl) rfl rfl ?_
  refine sy _ (zas rfl (e rfl rfl)) rfl rfl ?_
  refine s_end ?_
  refine v_seq ?_
  refine v_seq ?_
  refine v_reg ?_
  refine sy _ (zas rfl (ec rfl)) rfl rfl ?_
  refine s_end ?_
  refine v_block ?_
  refine v_lp (fun (q : Nat × List ByteArray × Nat × Nat × Nat) => [(0, .t ⟨false, [.d (.sl 6 (a0.map Record.cells))]⟩), (3, .t ⟨false, [.sr 0 q.2.2.2.1 0 (((q.2.1).map encS).length) (((q.2.1).map encS).length)]⟩), (4, .t ⟨false, [.d (dI (q.2.2.1 : Int))]⟩)]) (fun q => [(0, .row 1 ((q.2.1).map encS) true q.2.2.2.1 q.2.2.2.2)]) (fun q => n_spec_HostsL1 a0 q.1 q.2.1 q.2.2.1 = r ∧ (q.2.2.1 ≤ (a0).length) ∧ (q.2.2.1 + q.1 = (a0).length + 1) ∧ (q.2.1.length ≤ q.2.2.1) ∧ (fitL fitS q.2.1)) (fun q => q.1) ((a0).length + 1, (([] : List ByteArray) : List ByteArray), (0 : Nat), 1, 0) ⟨hr, by (try dsimp only); (try simp only [List.length_nil, List.length_cons, List.length_replicate]); first | done | omega | exact Nat.zero_le _, by (try dsimp only); (try simp only [List.length_nil, List.length_cons, List.length_replicate]); first | done | omega | exact Nat.zero_le _, by (try dsimp only); (try simp only [List.length_nil, List.length_cons, List.length_replicate]); first | done | omega | exact Nat.zero_le _, fitL_nil⟩ ⟨rfl, rfl, rfl, trivial⟩ ⟨rfl, trivial⟩ rfl (fun q hq => ?_)
  obtain ⟨n, l0, i, g0, w0⟩ := q
  obtain ⟨hr, hi1x0, hi1x1, hi1x2, hi1x3⟩ := hq
  dsimp only at hr hi1x0 hi1x1 hi1x2 hi1x3
  show VWp _ _ _ (mk [(0, .t ⟨false, [.d (.sl 6 (a0.map Record.cells))]⟩), (3, .t ⟨false, [.sr 0 g0 0 (((l0).map encS).length) (((l0).map encS).length)]⟩), (4, .t ⟨false, [.d (dI (i : Int))]⟩)] _ [(0, .row 1 ((l0).map encS) true g0 w0)])
  rcases n with _ | n
  · exfalso; omega
  rw [n_spec_HostsL1] at hr
  refine v_seq ?_
  refine v_seq ?_
  refine v_reg ?_
  refine sy _ (zmv rfl (e rfl rfl)) rfl rfl ?_
  refine sy _ (zmv rfl (e rfl rfl)) rfl rfl ?_
  have hB1 := (h0).1
  refine sy (.t ⟨false, [.d (dI ((a0).length : Int))]⟩) (zlm tabOk rfl rfl (e rfl rfl) .d) rfl rfl ?_
  refine sy (.t ⟨false, [.d (dB (decide (((i : Int)) < (((a0).length : Int)))))]⟩) (y_bin rfl (e rfl rfl) (e rfl rfl) (fun _ => b_lss) rfl) rfl rfl ?_
  refine s_end ?_
  refine v_cond (e rfl rfl) (fun hb1 => ?_) fun hb1 => ?_
  · replace hr := bf_t hb1 hr
    have hb1p := dec_t hb1
    refine v_skip ?_
    refine v_seq ?_
    refine v_block ?_
    refine v_seq ?_
    refine v_reg ?_
    refine sy _ (zmv rfl (e rfl rfl)) rfl rfl ?_
    refine sy _ (zmv rfl (e rfl rfl)) rfl rfl ?_
    obtain ⟨x1, hx1⟩ : ∃ x, (a0)[i]? = some x := some_of_lt (by omega)
    replace hr := at_step hx1 hr
    have hfx1 := h0.2 _ (List.mem_of_getElem? hx1)
    refine sy (.t ⟨false, [.fe 6 (a0.map Record.cells) i 0]⟩) (zix tabOk rfl rfl rfl (e rfl rfl) (e rfl rfl) (ltm_of_some hx1)) rfl rfl ?_
    refine sy (.t ⟨false, [.fe 6 (a0.map Record.cells) i 1]⟩) (zfa tabOk rfl rfl rfl (e rfl rfl) rfl rfl) rfl rfl ?_
    refine sy (.t ⟨false, [.d (dI (x1.Typ))]⟩) (zle tabOk rfl (e rfl rfl) (getm hx1) rfl rfl) rfl rfl ?_
    refine sy (.t ⟨false, [.d (dB (decide ((x1.Typ) = (2))))]⟩) (y_bin rfl (e rfl rfl) (ec rfl) (fun _ => b_eql) rfl) rfl rfl ?_
    refine sy _ (zmv rfl (e rfl rfl)) rfl rfl ?_
    rcases Bool.eq_false_or_eq_true (decide ((x1.Typ) = (2))) with hg2 | hg2
    · replace hr := bf_t hg2 hr
      have hg2p := dec_t hg2
      refine gr rfl rfl rfl (eg rfl rfl) hg2 ?_
      refine sy _ (zmv rfl (e rfl rfl)) rfl rfl ?_
      refine gr rfl rfl rfl (eg rfl rfl) hg2 ?_
      refine sy _ (zmv rfl (e rfl rfl)) rfl rfl ?_
      refine gr rfl rfl rfl (eg rfl rfl) hg2 ?_
      refine sy _ (zmv rfl (e rfl rfl)) rfl rfl ?_
      refine gr rfl rfl rfl (eg rfl rfl) hg2 ?_
      refine sy (.t ⟨false, [.fe 6 (a0.map Record.cells) i 0]⟩) (zix tabOk rfl rfl rfl (e rfl rfl) (e rfl rfl) (ltm_of_some hx1)) rfl rfl ?_
      refine gr rfl rfl rfl (eg rfl rfl) hg2 ?_
      refine sy (.t ⟨false, [.fe 6 (a0.map Record.cells) i 4]⟩) (zfa tabOk rfl rfl rfl (e rfl rfl) rfl rfl) rfl rfl ?_
      refine gr rfl rfl rfl (eg rfl rfl) hg2 ?_
      refine sy (.t ⟨false, [.d (dS (x1.Host))]⟩) (zle tabOk rfl (e rfl rfl) (getm hx1) rfl rfl) rfl rfl ?_
      refine gr rfl rfl rfl (eg rfl rfl) hg2 ?_
      refine sd (.t ⟨false, [.d (dB (n_spec_l9Has l0 x1.Host))]⟩) (zcall 3 (.t ⟨false, [.d (dB (n_spec_l9Has l0 x1.Host))]⟩) [] rfl (tr_n_spec_l9Has l0 x1.Host hi1x3 hfx1.Host) (ar (e rfl rfl) (.sr rfl le_all take_all .nil) (ar (e rfl rfl) (.d .nil) .nil)) rfl rfl rfl) rfl rfl rfl rfl ?_
      refine gr rfl rfl rfl (eg rfl rfl) hg2 ?_
      refine sy (.t ⟨false, [.d (dB (!(n_spec_l9Has l0 x1.Host)))]⟩) (y_un rfl (e rfl rfl) (fun _ => u_not) rfl) rfl rfl ?_
      refine sy (.t ⟨false, [.d (dB (!(n_spec_l9Has l0 x1.Host)))]⟩) (zpt rfl (e rfl rfl) hg2 (e rfl rfl)) rfl rfl ?_
      refine s_end ?_
      refine v_cond (e rfl rfl) (fun hb3 => ?_) fun hb3 => ?_
      · replace hr := bf_t hb3 hr
        have hn4 := not_t hb3
        refine v_reg ?_
        refine sy _ (zmv rfl (e rfl rfl)) rfl rfl ?_
        refine sy _ (zmv rfl (e rfl rfl)) rfl rfl ?_
        refine sy _ (zmv rfl (e rfl rfl)) rfl rfl ?_
        refine sy (.t ⟨false, [.fe 6 (a0.map Record.cells) i 0]⟩) (zix tabOk rfl rfl rfl (e rfl rfl) (e rfl rfl) (ltm_of_some hx1)) rfl rfl ?_
        refine sy (.t ⟨false, [.fe 6 (a0.map Record.cells) i 4]⟩) (zfa tabOk rfl rfl rfl (e rfl rfl) rfl rfl) rfl rfl ?_
        refine sy (.t ⟨false, [.d (dS (x1.Host))]⟩) (zle tabOk rfl (e rfl rfl) (getm hx1) rfl rfl) rfl rfl ?_
        refine sbk 3 (.t ⟨false, [.sr 3 1 0 ((([x1.Host] : List ByteArray).map encS).length) ((([x1.Host] : List ByteArray).map encS).length)]⟩) (.row 1 (([x1.Host] : List ByteArray).map encS) true 1 0) (zbu tabOk rfl rfl rfl rfl (pd0 (e rfl rfl) rfl (.lf .nil) rfl .nil) rfl rfl) rfl rfl ?_
        have hB2 := (hi1x3).1
        refine sa 0 (.t ⟨false, [.sr 0 (g0 + 1) 0 (((l0 ++ ([x1.Host] : List ByteArray)).map encS).length) (((l0 ++ ([x1.Host] : List ByteArray)).map encS).length)]⟩) (.row 1 ((l0 ++ ([x1.Host] : List ByteArray)).map encS) true (g0 + 1) (w0 + 1)) (zap tabOk rfl rfl rfl rfl (e rfl rfl) rfl rfl (e rfl rfl) (.flat rfl le_all take_all (flat_S _)) (ap_big (by simp only [List.length_map, List.length_cons, List.length_nil]; omega) rfl) map_app len_app) rfl rfl ?_
        refine sy _ (zas rfl (e rfl rfl)) rfl rfl ?_
        refine s_end ?_
        refine blk_norm ?_
        refine v_reg ?_
        refine sy _ (zmv rfl (e rfl rfl)) rfl rfl ?_
        refine sy (.t ⟨false, [.d (dI (i + 1 : Int))]⟩) (y_bin rfl (e rfl rfl) (ec rfl) (fun _ => b_addn (by omega) (by omega)) rfl) rfl rfl ?_
        refine sy _ (zas rfl (e rfl rfl)) rfl rfl ?_
        refine s_end ?_
        exact lp_next (n, l0 ++ ([x1.Host] : List ByteArray), i + 1, g0 + 1, w0 + 1) ⟨hr, by (try simp only [List.length_append, List.length_cons, List.length_nil, List.length_set]); first | done | omega, by (try simp only [List.length_append, List.length_cons, List.length_nil, List.length_set]); first | done | omega, by (try simp only [List.length_append, List.length_cons, List.length_nil, List.length_set]); first | done | omega, fitL_snoc hi1x3 (by omega) hfx1.Host⟩ (Nat.lt_succ_self _) ⟨rfl, rfl, rfl, trivial⟩ ⟨rfl, trivial⟩ rfl
      replace hr := bf_f hb3 hr
      have hn5 := not_f hb3
      refine v_skip ?_
      refine blk_norm ?_
      refine v_reg ?_
      refine sy _ (zmv rfl (e rfl rfl)) rfl rfl ?_
      refine sy (.t ⟨false, [.d (dI (i + 1 : Int))]⟩) (y_bin rfl (e rfl rfl) (ec rfl) (fun _ => b_addn (by omega) (by omega)) rfl) rfl rfl ?_
      refine sy _ (zas rfl (e rfl rfl)) rfl rfl ?_
      refine s_end ?_
      exact lp_next (n, l0, i + 1, g0, w0) ⟨hr, by (try simp only [List.length_append, List.length_cons, List.length_nil, List.length_set]); first | done | omega, by (try simp only [List.length_append, List.length_cons, List.length_nil, List.length_set]); first | done | omega, by (try simp only [List.length_append, List.length_cons, List.length_nil, List.length_set]); first | done | omega, hi1x3⟩ (Nat.lt_succ_self _) ⟨rfl, rfl, rfl, trivial⟩ ⟨rfl, trivial⟩ rfl
    replace hr := bf_f hg2 hr
    have hg2p := dec_f hg2
    refine gs rfl rfl rfl (eg rfl rfl) hg2 rfl ?_
    refine gs rfl rfl rfl (eg rfl rfl) hg2 rfl ?_
    refine gs rfl rfl rfl (eg rfl rfl) hg2 rfl ?_
    refine gs rfl rfl rfl (eg rfl rfl) hg2 rfl ?_
    refine gs rfl rfl rfl (eg rfl rfl) hg2 rfl ?_
    refine gs rfl rfl rfl (eg rfl rfl) hg2 rfl ?_
    refine gs rfl rfl rfl (eg rfl rfl) hg2 rfl ?_
    refine gs rfl rfl rfl (eg rfl rfl) hg2 rfl ?_
    refine sy (.t ⟨false, [.d (dB (false))]⟩) (zpf rfl (e rfl rfl) hg2 (ec rfl)) rfl rfl ?_
    refine s_end ?_
    refine v_cF (e rfl rfl) rfl ?_
    refine v_skip ?_
    refine blk_norm ?_
    refine v_reg ?_
    refine sy _ (zmv rfl (e rfl rfl)) rfl rfl ?_
    refine sy (.t ⟨false, [.d (dI (i + 1 : Int))]⟩) (y_bin rfl (e rfl rfl) (ec rfl) (fun _ => b_addn (by omega) (by omega)) rfl) rfl rfl ?_
    refine sy _ (zas rfl (e rfl rfl)) rfl rfl ?_
    refine s_end ?_
    exact lp_next (n, l0, i + 1, g0, w0) ⟨hr, by (try simp only [List.length_append, List.length_cons, List.length_nil, List.length_set]); first | done | omega, by (try simp only [List.length_append, List.length_cons, List.length_nil, List.length_set]); first | done | omega, by (try simp only [List.length_append, List.length_cons, List.length_nil, List.length_set]); first | done | omega, hi1x3⟩ (Nat.lt_succ_self _) ⟨rfl, rfl, rfl, trivial⟩ ⟨rfl, trivial⟩ rfl
  replace hr := bf_f hb1 hr
  have hb1p := dec_f hb1
  refine v_exit ?_
  refine then_exit ?_
  refine loop_exit ?_
  refine blk_hit ?_
  refine v_seq ?_
  refine v_reg ?_
  refine sy _ (zmv rfl (e rfl rfl)) rfl rfl ?_
  refine sy _ (zas rfl (e rfl rfl)) rfl rfl ?_
  refine s_end ?_
  refine v_ret ?_
  subst hr
  exact post_ret (rv (.tmp (eg rfl rfl)) rfl (.sr rfl le_all take_all .nil) rfl .nil) (.ro .nil) rfl
set_option maxHeartbeats 4000000 in
theorem fitx_n_spec_Hosts (a0 : List Record) (h0 : fitL Record.Fit a0) : fitL fitS (n_spec_Hosts a0) := by
  obtain ⟨r, hr⟩ : ∃ r, n_spec_Hosts a0 = r := ⟨_, rfl⟩
  rw [hr]
  rw [n_spec_Hosts] at hr
  refine fx_lp (fun (q : Nat × List ByteArray × Nat × Nat × Nat) => n_spec_HostsL1 a0 q.1 q.2.1 q.2.2.1 = r ∧ (q.2.2.1 ≤ (a0).length) ∧ (q.2.2.1 + q.1 = (a0).length + 1) ∧ (q.2.1.length ≤ q.2.2.1) ∧ (fitL fitS q.2.1)) (fun q => q.1) ((a0).length + 1, (([] : List ByteArray) : List ByteArray), (0 : Nat), 1, 0) ⟨hr, by (try dsimp only); (try simp only [List.length_nil, List.length_cons, List.length_replicate]); first | done | omega | exact Nat.zero_le _, by (try dsimp only); (try simp only [List.length_nil, List.length_cons, List.length_replicate]); first | done | omega | exact Nat.zero_le _, by (try dsimp only); (try simp only [List.length_nil, List.length_cons, List.length_replicate]); first | done | omega | exact Nat.zero_le _, fitL_nil⟩ (fun q hq hn1 => ?_)
  obtain ⟨n, l0, i, g0, w0⟩ := q
  obtain ⟨hr, hi1x0, hi1x1, hi1x2, hi1x3⟩ := hq
  dsimp only at hr hi1x0 hi1x1 hi1x2 hi1x3
  rcases n with _ | n
  · exfalso; omega
  rw [n_spec_HostsL1] at hr
  have hB1 : (a0).length ≤ _ := (h0).1
  rcases Bool.eq_false_or_eq_true (decide (((i : Int)) < (((a0).length : Int)))) with hb1 | hb1
  · replace hr := bf_t hb1 hr
    have hb1p := dec_t hb1
    obtain ⟨x1, hx1⟩ : ∃ x, (a0)[i]? = some x := some_of_lt (by omega)
    replace hr := at_step hx1 hr
    have hfx1 := h0.2 _ (List.mem_of_getElem? hx1)
    rcases Bool.eq_false_or_eq_true (decide ((x1.Typ) = (2))) with hg2 | hg2
    · replace hr := bf_t hg2 hr
      have hg2p := dec_t hg2
      rcases Bool.eq_false_or_eq_true (!(n_spec_l9Has l0 x1.Host)) with hb3 | hb3
      · replace hr := bf_t hb3 hr
        have hn4 := not_t hb3
        have hB2 : (l0).length ≤ _ := (hi1x3).1
        exact hn1 (n, l0 ++ ([x1.Host] : List ByteArray), i + 1, g0 + 1, w0 + 1) (Nat.lt_succ_self _) ⟨hr, by (try simp only [List.length_append, List.length_cons, List.length_nil, List.length_set]); first | done | omega, by (try simp only [List.length_append, List.length_cons, List.length_nil, List.length_set]); first | done | omega, by (try simp only [List.length_append, List.length_cons, List.length_nil, List.length_set]); first | done | omega, fitL_snoc hi1x3 (by omega) hfx1.Host⟩
      replace hr := bf_f hb3 hr
      have hn5 := not_f hb3
      exact hn1 (n, l0, i + 1, g0, w0) (Nat.lt_succ_self _) ⟨hr, by (try simp only [List.length_append, List.length_cons, List.length_nil, List.length_set]); first | done | omega, by (try simp only [List.length_append, List.length_cons, List.length_nil, List.length_set]); first | done | omega, by (try simp only [List.length_append, List.length_cons, List.length_nil, List.length_set]); first | done | omega, hi1x3⟩
    replace hr := bf_f hg2 hr
    have hg2p := dec_f hg2
    exact hn1 (n, l0, i + 1, g0, w0) (Nat.lt_succ_self _) ⟨hr, by (try simp only [List.length_append, List.length_cons, List.length_nil, List.length_set]); first | done | omega, by (try simp only [List.length_append, List.length_cons, List.length_nil, List.length_set]); first | done | omega, by (try simp only [List.length_append, List.length_cons, List.length_nil, List.length_set]); first | done | omega, hi1x3⟩
  replace hr := bf_f hb1 hr
  have hb1p := dec_f hb1
  subst hr
  exact hi1x3
def n_impl_HostsL1 (a0 : List Record) : Nat → (List ByteArray) → Nat → (List ByteArray)
  | 0, _, _ => default
  | n + 1, l0, z9 => cond (decide (((z9 : Int)) < (((a0).length : Int)))) (atL (a0) (z9) (fun x1 => cond (decide ((x1.Typ) = (2))) (cond (!(n_slices_Contains_string l0 x1.Host)) (n_impl_HostsL1 a0 n (l0 ++ ([x1.Host] : List ByteArray)) (z9 + 1)) (n_impl_HostsL1 a0 n l0 (z9 + 1))) (n_impl_HostsL1 a0 n l0 (z9 + 1)))) (l0)
def n_impl_Hosts (a0 : List Record) : List ByteArray := n_impl_HostsL1 a0 ((a0).length + 1) (([] : List ByteArray)) 0
set_option maxHeartbeats 4000000 in
set_option maxRecDepth 20000 in
theorem tr_n_impl_Hosts (a0 : List Record) (h0 : fitL Record.Fit a0) : Tr Tryz.prog 45 [.ro ⟨false, [.sl 6 (a0.map Record.cells)]⟩] [⟨false, [.sl 1 (((n_impl_Hosts a0)).map encS)]⟩] := by
  obtain ⟨r, hr⟩ : ∃ r, n_impl_Hosts a0 = r := ⟨_, rfl⟩
  rw [hr]
  rw [n_impl_Hosts] at hr
  refine tr_go tabOk Tryz.func45 rfl rfl rfl rfl rfl (ov := [(0, .t ⟨false, [.d (.sl 6 (a0.map Record.cells))]⟩)]) (hv := []) rfl rfl ?_
  refine v_seq ?_
  refine v_reg ?_
  refine sy _ (zas rfl (en 1)) rfl rfl ?_
  refine s_end ?_
  refine v_seq ?_
  refine v_reg ?_
  refine sbk 0 (.t ⟨false, [.sr 0 1 0 ((([] : List ByteArray).map encS).length) ((([] : List ByteArray).map encS).length)]⟩) (.row 1 (([] : List ByteArray).map encS) true 1 0) (zbu tabOk rfl rfl rfl rfl .nil rfl rfl) rfl rfl ?_
  refine sy _ (zas rfl (e rfl rfl)) rfl rfl ?_
  refine s_end ?_
  refine v_seq ?_
  refine v_seq ?_
  refine v_reg ?_
  refine sy _ (zmv rfl (e rfl rfl)) rfl rfl ?_
  have hB1 := (h0).1
  refine sy (.t ⟨false, [.d (dI ((a0).length : Int))]⟩) (zlm tabOk rfl rfl (e rfl rfl) .d) rfl rfl ?_
  refine sy _ (zmv rfl (ec rfl)) rfl rfl ?_
  refine s_end ?_
  refine v_block ?_
  refine v_lp (fun (q : Nat × List ByteArray × Nat × Nat × Nat) => [(3, .t ⟨false, [.sr 0 q.2.2.2.1 0 (((q.2.1).map encS).length) (((q.2.1).map encS).length)]⟩), (7, .t ⟨false, [.d (.sl 6 (a0.map Record.cells))]⟩), (8, .t ⟨false, [.d (dI ((a0).length : Int))]⟩), (9, .t ⟨false, [.d (dI (q.2.2.1 : Int))]⟩)]) (fun q => [(0, .row 1 ((q.2.1).map encS) true q.2.2.2.1 q.2.2.2.2)]) (fun q => n_impl_HostsL1 a0 q.1 q.2.1 q.2.2.1 = r ∧ (q.2.2.1 ≤ (a0).length) ∧ (q.2.2.1 + q.1 = (a0).length + 1) ∧ (q.2.1.length ≤ q.2.2.1) ∧ (fitL fitS q.2.1)) (fun q => q.1) ((a0).length + 1, (([] : List ByteArray) : List ByteArray), (0 : Nat), 1, 0) ⟨hr, by (try dsimp only); (try simp only [List.length_nil, List.length_cons, List.length_replicate]); first | done | omega | exact Nat.zero_le _, by (try dsimp only); (try simp only [List.length_nil, List.length_cons, List.length_replicate]); first | done | omega | exact Nat.zero_le _, by (try dsimp only); (try simp only [List.length_nil, List.length_cons, List.length_replicate]); first | done | omega | exact Nat.zero_le _, fitL_nil⟩ ⟨rfl, rfl, rfl, rfl, trivial⟩ ⟨rfl, trivial⟩ rfl (fun q hq => ?_)
  obtain ⟨n, l0, z9, g0, w0⟩ := q
  obtain ⟨hr, hi1x0, hi1x1, hi1x2, hi1x3⟩ := hq
  dsimp only at hr hi1x0 hi1x1 hi1x2 hi1x3
  show VWp _ _ _ (mk [(3, .t ⟨false, [.sr 0 g0 0 (((l0).map encS).length) (((l0).map encS).length)]⟩), (7, .t ⟨false, [.d (.sl 6 (a0.map Record.cells))]⟩), (8, .t ⟨false, [.d (dI ((a0).length : Int))]⟩), (9, .t ⟨false, [.d (dI (z9 : Int))]⟩)] _ [(0, .row 1 ((l0).map encS) true g0 w0)])
  rcases n with _ | n
  · exfalso; omega
  rw [n_impl_HostsL1] at hr
  refine v_seq ?_
  refine v_reg ?_
  refine sy (.t ⟨false, [.d (dB (decide (((z9 : Int)) < (((a0).length : Int)))))]⟩) (y_bin rfl (e rfl rfl) (e rfl rfl) (fun _ => b_lss) rfl) rfl rfl ?_
  refine s_end ?_
  refine v_seq ?_
  refine v_cond (e rfl rfl) (fun hb1 => ?_) fun hb1 => ?_
  · replace hr := bf_t hb1 hr
    have hb1p := dec_t hb1
    refine v_skip ?_
    refine v_seq ?_
    refine v_block ?_
    refine v_seq ?_
    refine v_reg ?_
    obtain ⟨x1, hx1⟩ : ∃ x, (a0)[z9]? = some x := some_of_lt (by omega)
    replace hr := at_step hx1 hr
    have hfx1 := h0.2 _ (List.mem_of_getElem? hx1)
    refine sy (.t ⟨false, [.fe 6 (a0.map Record.cells) z9 0]⟩) (zix tabOk rfl rfl rfl (e rfl rfl) (e rfl rfl) (ltm_of_some hx1)) rfl rfl ?_
    refine sy (.t ⟨true, [.d (dS (x1.Name)), .d (dI (x1.Typ)), .d (dI (x1.Ttl)), .d (dI (x1.N)), .d (dS (x1.Host)), .d (dS (x1.Text))]⟩) (zle tabOk rfl (e rfl rfl) (getm hx1) rfl rfl) rfl rfl ?_
    refine sr 5 (.t ⟨false, [.vp 5 0]⟩) (.var [.d (dS (⟨#[]⟩)), .d (dI (0)), .d (dI (0)), .d (dI (0)), .d (dS (⟨#[]⟩)), .d (dS (⟨#[]⟩))]) (zal tabOk rfl rfl rfl rfl) rfl rfl ?_
    refine sw 5 (.var [.d (dS (x1.Name)), .d (dI (x1.Typ)), .d (dI (x1.Ttl)), .d (dI (x1.N)), .d (dS (x1.Host)), .d (dS (x1.Text))]) (zst tabOk rfl (e rfl rfl) rfl (e rfl rfl) rfl rfl rfl) rfl rfl ?_
    refine s_end ?_
    refine v_seq ?_
    refine v_reg ?_
    refine sy (.t ⟨false, [.vp 5 1]⟩) (zfa tabOk rfl rfl rfl (e rfl rfl) rfl rfl) rfl rfl ?_
    refine sy (.t ⟨false, [.d (dI (x1.Typ))]⟩) (zlv tabOk rfl (e rfl rfl) rfl rfl rfl) rfl rfl ?_
    refine sy (.t ⟨false, [.d (dB (decide ((x1.Typ) = (2))))]⟩) (y_bin rfl (e rfl rfl) (ec rfl) (fun _ => b_eql) rfl) rfl rfl ?_
    refine sy _ (zmv rfl (e rfl rfl)) rfl rfl ?_
    rcases Bool.eq_false_or_eq_true (decide ((x1.Typ) = (2))) with hg2 | hg2
    · replace hr := bf_t hg2 hr
      have hg2p := dec_t hg2
      refine gr rfl rfl rfl (eg rfl rfl) hg2 ?_
      refine sy _ (zmv rfl (e rfl rfl)) rfl rfl ?_
      refine gr rfl rfl rfl (eg rfl rfl) hg2 ?_
      refine sy (.t ⟨false, [.vp 5 4]⟩) (zfa tabOk rfl rfl rfl (e rfl rfl) rfl rfl) rfl rfl ?_
      refine gr rfl rfl rfl (eg rfl rfl) hg2 ?_
      refine sy (.t ⟨false, [.d (dS (x1.Host))]⟩) (zlv tabOk rfl (e rfl rfl) rfl rfl rfl) rfl rfl ?_
      refine gr rfl rfl rfl (eg rfl rfl) hg2 ?_
      refine sd (.t ⟨false, [.d (dB (n_slices_Contains_string l0 x1.Host))]⟩) (zcall 6 (.t ⟨false, [.d (dB (n_slices_Contains_string l0 x1.Host))]⟩) [] rfl (tr_n_slices_Contains_string l0 x1.Host hi1x3 hfx1.Host) (ar (e rfl rfl) (.sr rfl le_all take_all .nil) (ar (e rfl rfl) (.d .nil) .nil)) rfl rfl rfl) rfl rfl rfl rfl ?_
      refine gr rfl rfl rfl (eg rfl rfl) hg2 ?_
      refine sy (.t ⟨false, [.d (dB (!(n_slices_Contains_string l0 x1.Host)))]⟩) (y_un rfl (e rfl rfl) (fun _ => u_not) rfl) rfl rfl ?_
      refine sy (.t ⟨false, [.d (dB (!(n_slices_Contains_string l0 x1.Host)))]⟩) (zpt rfl (e rfl rfl) hg2 (e rfl rfl)) rfl rfl ?_
      refine s_end ?_
      refine v_cond (e rfl rfl) (fun hb3 => ?_) fun hb3 => ?_
      · replace hr := bf_t hb3 hr
        have hn4 := not_t hb3
        refine v_reg ?_
        refine sy _ (zmv rfl (e rfl rfl)) rfl rfl ?_
        refine sy (.t ⟨false, [.vp 5 4]⟩) (zfa tabOk rfl rfl rfl (e rfl rfl) rfl rfl) rfl rfl ?_
        refine sy (.t ⟨false, [.d (dS (x1.Host))]⟩) (zlv tabOk rfl (e rfl rfl) rfl rfl rfl) rfl rfl ?_
        refine sbk 6 (.t ⟨false, [.sr 6 1 0 ((([x1.Host] : List ByteArray).map encS).length) ((([x1.Host] : List ByteArray).map encS).length)]⟩) (.row 1 (([x1.Host] : List ByteArray).map encS) true 1 0) (zbu tabOk rfl rfl rfl rfl (pd0 (e rfl rfl) rfl (.lf .nil) rfl .nil) rfl rfl) rfl rfl ?_
        have hB2 := (hi1x3).1
        refine sa 0 (.t ⟨false, [.sr 0 (g0 + 1) 0 (((l0 ++ ([x1.Host] : List ByteArray)).map encS).length) (((l0 ++ ([x1.Host] : List ByteArray)).map encS).length)]⟩) (.row 1 ((l0 ++ ([x1.Host] : List ByteArray)).map encS) true (g0 + 1) (w0 + 1)) (zap tabOk rfl rfl rfl rfl (e rfl rfl) rfl rfl (e rfl rfl) (.flat rfl le_all take_all (flat_S _)) (ap_big (by simp only [List.length_map, List.length_cons, List.length_nil]; omega) rfl) map_app len_app) rfl rfl ?_
        refine sy _ (zas rfl (e rfl rfl)) rfl rfl ?_
        refine s_end ?_
        refine blk_norm ?_
        refine v_reg ?_
        refine sy (.t ⟨false, [.d (dI (z9 + 1 : Int))]⟩) (y_bin rfl (e rfl rfl) (ec rfl) (fun _ => b_addn (by omega) (by omega)) rfl) rfl rfl ?_
        refine sy _ (zmv rfl (e rfl rfl)) rfl rfl ?_
        refine s_end ?_
        exact lp_next (n, l0 ++ ([x1.Host] : List ByteArray), z9 + 1, g0 + 1, w0 + 1) ⟨hr, by (try simp only [List.length_append, List.length_cons, List.length_nil, List.length_set]); first | done | omega, by (try simp only [List.length_append, List.length_cons, List.length_nil, List.length_set]); first | done | omega, by (try simp only [List.length_append, List.length_cons, List.length_nil, List.length_set]); first | done | omega, fitL_snoc hi1x3 (by omega) hfx1.Host⟩ (Nat.lt_succ_self _) ⟨rfl, rfl, rfl, rfl, trivial⟩ ⟨rfl, trivial⟩ rfl
      replace hr := bf_f hb3 hr
      have hn5 := not_f hb3
      refine v_skip ?_
      refine blk_norm ?_
      refine v_reg ?_
      refine sy (.t ⟨false, [.d (dI (z9 + 1 : Int))]⟩) (y_bin rfl (e rfl rfl) (ec rfl) (fun _ => b_addn (by omega) (by omega)) rfl) rfl rfl ?_
      refine sy _ (zmv rfl (e rfl rfl)) rfl rfl ?_
      refine s_end ?_
      exact lp_next (n, l0, z9 + 1, g0, w0) ⟨hr, by (try simp only [List.length_append, List.length_cons, List.length_nil, List.length_set]); first | done | omega, by (try simp only [List.length_append, List.length_cons, List.length_nil, List.length_set]); first | done | omega, by (try simp only [List.length_append, List.length_cons, List.length_nil, List.length_set]); first | done | omega, hi1x3⟩ (Nat.lt_succ_self _) ⟨rfl, rfl, rfl, rfl, trivial⟩ ⟨rfl, trivial⟩ rfl
    replace hr := bf_f hg2 hr
    have hg2p := dec_f hg2
    refine gs rfl rfl rfl (eg rfl rfl) hg2 rfl ?_
    refine gs rfl rfl rfl (eg rfl rfl) hg2 rfl ?_
    refine gs rfl rfl rfl (eg rfl rfl) hg2 rfl ?_
    refine gs rfl rfl rfl (eg rfl rfl) hg2 rfl ?_
    refine gs rfl rfl rfl (eg rfl rfl) hg2 rfl ?_
    refine sy (.t ⟨false, [.d (dB (false))]⟩) (zpf rfl (e rfl rfl) hg2 (ec rfl)) rfl rfl ?_
    refine s_end ?_
    refine v_cF (e rfl rfl) rfl ?_
    refine v_skip ?_
    refine blk_norm ?_
    refine v_reg ?_
    refine sy (.t ⟨false, [.d (dI (z9 + 1 : Int))]⟩) (y_bin rfl (e rfl rfl) (ec rfl) (fun _ => b_addn (by omega) (by omega)) rfl) rfl rfl ?_
    refine sy _ (zmv rfl (e rfl rfl)) rfl rfl ?_
    refine s_end ?_
    exact lp_next (n, l0, z9 + 1, g0, w0) ⟨hr, by (try simp only [List.length_append, List.length_cons, List.length_nil, List.length_set]); first | done | omega, by (try simp only [List.length_append, List.length_cons, List.length_nil, List.length_set]); first | done | omega, by (try simp only [List.length_append, List.length_cons, List.length_nil, List.length_set]); first | done | omega, hi1x3⟩ (Nat.lt_succ_self _) ⟨rfl, rfl, rfl, rfl, trivial⟩ ⟨rfl, trivial⟩ rfl
  replace hr := bf_f hb1 hr
  have hb1p := dec_f hb1
  refine v_exit ?_
  refine then_exit ?_
  refine loop_exit ?_
  refine blk_hit ?_
  refine v_seq ?_
  refine v_reg ?_
  refine sy _ (zmv rfl (e rfl rfl)) rfl rfl ?_
  refine sy _ (zas rfl (e rfl rfl)) rfl rfl ?_
  refine s_end ?_
  refine v_ret ?_
  subst hr
  exact post_ret (rv (.tmp (eg rfl rfl)) rfl (.sr rfl le_all take_all .nil) rfl .nil) (.ro .nil) rfl
set_option maxHeartbeats 4000000 in
theorem fitx_n_impl_Hosts (a0 : List Record) (h0 : fitL Record.Fit a0) : fitL fitS (n_impl_Hosts a0) := by
  obtain ⟨r, hr⟩ : ∃ r, n_impl_Hosts a0 = r := ⟨_, rfl⟩
  rw [hr]
  rw [n_impl_Hosts] at hr
  have hB1 : (a0).length ≤ _ := (h0).1
  refine fx_lp (fun (q : Nat × List ByteArray × Nat × Nat × Nat) => n_impl_HostsL1 a0 q.1 q.2.1 q.2.2.1 = r ∧ (q.2.2.1 ≤ (a0).length) ∧ (q.2.2.1 + q.1 = (a0).length + 1) ∧ (q.2.1.length ≤ q.2.2.1) ∧ (fitL fitS q.2.1)) (fun q => q.1) ((a0).length + 1, (([] : List ByteArray) : List ByteArray), (0 : Nat), 1, 0) ⟨hr, by (try dsimp only); (try simp only [List.length_nil, List.length_cons, List.length_replicate]); first | done | omega | exact Nat.zero_le _, by (try dsimp only); (try simp only [List.length_nil, List.length_cons, List.length_replicate]); first | done | omega | exact Nat.zero_le _, by (try dsimp only); (try simp only [List.length_nil, List.length_cons, List.length_replicate]); first | done | omega | exact Nat.zero_le _, fitL_nil⟩ (fun q hq hn1 => ?_)
  obtain ⟨n, l0, z9, g0, w0⟩ := q
  obtain ⟨hr, hi1x0, hi1x1, hi1x2, hi1x3⟩ := hq
  dsimp only at hr hi1x0 hi1x1 hi1x2 hi1x3
  rcases n with _ | n
  · exfalso; omega
  rw [n_impl_HostsL1] at hr
  rcases Bool.eq_false_or_eq_true (decide (((z9 : Int)) < (((a0).length : Int)))) with hb1 | hb1
  · replace hr := bf_t hb1 hr
    have hb1p := dec_t hb1
    obtain ⟨x1, hx1⟩ : ∃ x, (a0)[z9]? = some x := some_of_lt (by omega)
    replace hr := at_step hx1 hr
    have hfx1 := h0.2 _ (List.mem_of_getElem? hx1)
    rcases Bool.eq_false_or_eq_true (decide ((x1.Typ) = (2))) with hg2 | hg2
    · replace hr := bf_t hg2 hr
      have hg2p := dec_t hg2
      rcases Bool.eq_false_or_eq_true (!(n_slices_Contains_string l0 x1.Host)) with hb3 | hb3
      · replace hr := bf_t hb3 hr
        have hn4 := not_t hb3
        have hB2 : (l0).length ≤ _ := (hi1x3).1
        exact hn1 (n, l0 ++ ([x1.Host] : List ByteArray), z9 + 1, g0 + 1, w0 + 1) (Nat.lt_succ_self _) ⟨hr, by (try simp only [List.length_append, List.length_cons, List.length_nil, List.length_set]); first | done | omega, by (try simp only [List.length_append, List.length_cons, List.length_nil, List.length_set]); first | done | omega, by (try simp only [List.length_append, List.length_cons, List.length_nil, List.length_set]); first | done | omega, fitL_snoc hi1x3 (by omega) hfx1.Host⟩
      replace hr := bf_f hb3 hr
      have hn5 := not_f hb3
      exact hn1 (n, l0, z9 + 1, g0, w0) (Nat.lt_succ_self _) ⟨hr, by (try simp only [List.length_append, List.length_cons, List.length_nil, List.length_set]); first | done | omega, by (try simp only [List.length_append, List.length_cons, List.length_nil, List.length_set]); first | done | omega, by (try simp only [List.length_append, List.length_cons, List.length_nil, List.length_set]); first | done | omega, hi1x3⟩
    replace hr := bf_f hg2 hr
    have hg2p := dec_f hg2
    exact hn1 (n, l0, z9 + 1, g0, w0) (Nat.lt_succ_self _) ⟨hr, by (try simp only [List.length_append, List.length_cons, List.length_nil, List.length_set]); first | done | omega, by (try simp only [List.length_append, List.length_cons, List.length_nil, List.length_set]); first | done | omega, by (try simp only [List.length_append, List.length_cons, List.length_nil, List.length_set]); first | done | omega, hi1x3⟩
  replace hr := bf_f hb1 hr
  have hb1p := dec_f hb1
  subst hr
  exact hi1x3
def n_spec_AddrsL1 (a0 : List Record) (a1 : ByteArray) : Nat → (List Int) → Nat → (List Int)
  | 0, _, _ => default
  | n + 1, l0, i => cond (decide (((i : Int)) < (((a0).length : Int)))) (atL (a0) (i) (fun x1 => cond (decide ((x1.Typ) = (1))) (cond (decide ((x1.Name) = (a1))) (cond (!(n_spec_l9HasInt l0 x1.N)) (n_spec_AddrsL1 a0 a1 n (l0 ++ ([x1.N] : List Int)) (i + 1)) (n_spec_AddrsL1 a0 a1 n l0 (i + 1))) (n_spec_AddrsL1 a0 a1 n l0 (i + 1))) (n_spec_AddrsL1 a0 a1 n l0 (i + 1)))) (l0)
def n_spec_Addrs (a0 : List Record) (a1 : ByteArray) : List Int := n_spec_AddrsL1 a0 a1 ((a0).length + 1) (([] : List Int)) 0
set_option maxHeartbeats 4000000 in
set_option maxRecDepth 20000 in
theorem tr_n_spec_Addrs (a0 : List Record) (a1 : ByteArray) (h0 : fitL Record.Fit a0) (h1 : fitS a1) : Tr Tryz.prog 61 [.ro ⟨false, [.sl 6 (a0.map Record.cells)]⟩, .ro ⟨false, [dS (a1)]⟩] [⟨false, [.sl 1 (((n_spec_Addrs a0 a1)).map encI)]⟩] := by
  obtain ⟨r, hr⟩ : ∃ r, n_spec_Addrs a0 a1 = r := ⟨_, rfl⟩
  rw [hr]
  rw [n_spec_Addrs] at hr
  refine tr_go tabOk Tryz.func61 rfl rfl rfl rfl rfl (ov := [(0, .t ⟨false, [.d (.sl 6 (a0.map Record.cells))]⟩), (1, .t ⟨false, [.d (dS (a1))]⟩)]) (hv := []) rfl rfl ?_
  refine v_seq ?_
  refine v_reg ?_
  refine sy _ (zas rfl (en 1)) rfl rfl ?_
  refine s_end ?_
  refine v_seq ?_
  refine v_reg ?_
  refine sbk 0 (.t ⟨false, [.sr 0 1 0 ((([] : List Int).map encI).length) ((([] : List Int).map encI).length)]⟩) (.row 1 (([] : List Int).map encI) true 1 0) (zbu tabOk rfl rfl rfl rfl .nil rfl rfl) rfl rfl ?_
  refine sy _ (zas rfl (e rfl rfl)) rfl rfl ?_
  refine s_end ?_
  refine v_seq ?_
  refine v_seq ?_
  refine v_reg ?_
  refine sy _ (zas rfl (ec rfl)) rfl rfl ?_
  refine s_end ?_
  refine v_block ?_
  refine v_lp (fun (q : Nat × List Int × Nat × Nat × Nat) => [(0, .t ⟨false, [.d (.sl 6 (a0.map Record.cells))]⟩), (1, .t ⟨false, [.d (dS (a1))]⟩), (5, .t ⟨false, [.sr 0 q.2.2.2.1 0 (((q.2.1).map encI).length) (((q.2.1).map encI).length)]⟩), (6, .t ⟨false, [.d (dI (q.2.2.1 : Int))]⟩)]) (fun q => [(0, .row 1 ((q.2.1).map encI) true q.2.2.2.1 q.2.2.2.2)]) (fun q => n_spec_AddrsL1 a0 a1 q.1 q.2.1 q.2.2.1 = r ∧ (q.2.2.1 ≤ (a0).length) ∧ (q.2.2.1 + q.1 = (a0).length + 1) ∧ (q.2.1.length ≤ q.2.2.1) ∧ (fitL fitU q.2.1)) (fun q => q.1) ((a0).length + 1, (([] : List Int) : List Int), (0 : Nat), 1, 0) ⟨hr, by (try dsimp only); (try simp only [List.length_nil, List.length_cons, List.length_replicate]); first | done | omega | exact Nat.zero_le _, by (try dsimp only); (try simp only [List.length_nil, List.length_cons, List.length_replicate]); first | done | omega | exact Nat.zero_le _, by (try dsimp only); (try simp only [List.length_nil, List.length_cons, List.length_replicate]); first | done | omega | exact Nat.zero_le _, fitL_nil⟩ ⟨rfl, rfl, rfl, rfl, trivial⟩ ⟨rfl, trivial⟩ rfl (fun q hq => ?_)
  obtain ⟨n, l0, i, g0, w0⟩ := q
  obtain ⟨hr, hi1x0, hi1x1, hi1x2, hi1x3⟩ := hq
  dsimp only at hr hi1x0 hi1x1 hi1x2 hi1x3
  show VWp _ _ _ (mk [(0, .t ⟨false, [.d (.sl 6 (a0.map Record.cells))]⟩), (1, .t ⟨false, [.d (dS (a1))]⟩), (5, .t ⟨false, [.sr 0 g0 0 (((l0).map encI).length) (((l0).map encI).length)]⟩), (6, .t ⟨false, [.d (dI (i : Int))]⟩)] _ [(0, .row 1 ((l0).map encI) true g0 w0)])
  rcases n with _ | n
  · exfalso; omega
  rw [n_spec_AddrsL1] at hr
  refine v_seq ?_
  refine v_seq ?_
  refine v_reg ?_
  refine sy _ (zmv rfl (e rfl rfl)) rfl rfl ?_
  refine sy _ (zmv rfl (e rfl rfl)) rfl rfl ?_
  have hB1 := (h0).1
  refine sy (.t ⟨false, [.d (dI ((a0).length : Int))]⟩) (zlm tabOk rfl rfl (e rfl rfl) .d) rfl rfl ?_
  refine sy (.t ⟨false, [.d (dB (decide (((i : Int)) < (((a0).length : Int)))))]⟩) (y_bin rfl (e rfl rfl) (e rfl rfl) (fun _ => b_lss) rfl) rfl rfl ?_
  refine s_end ?_
  refine v_cond (e rfl rfl) (fun hb1 => ?_) fun hb1 => ?_
  · replace hr := bf_t hb1 hr
    have hb1p := dec_t hb1
    refine v_skip ?_
    refine v_seq ?_
    refine v_block ?_
    refine v_seq ?_
    refine v_reg ?_
    refine sy _ (zmv rfl (e rfl rfl)) rfl rfl ?_
    refine sy _ (zmv rfl (e rfl rfl)) rfl rfl ?_
    obtain ⟨x1, hx1⟩ : ∃ x, (a0)[i]? = some x := some_of_lt (by omega)
    replace hr := at_step hx1 hr
    have hfx1 := h0.2 _ (List.mem_of_getElem? hx1)
    refine sy (.t ⟨false, [.fe 6 (a0.map Record.cells) i 0]⟩) (zix tabOk rfl rfl rfl (e rfl rfl) (e rfl rfl) (ltm_of_some hx1)) rfl rfl ?_
    refine sy (.t ⟨false, [.fe 6 (a0.map Record.cells) i 1]⟩) (zfa tabOk rfl rfl rfl (e rfl rfl) rfl rfl) rfl rfl ?_
    refine sy (.t ⟨false, [.d (dI (x1.Typ))]⟩) (zle tabOk rfl (e rfl rfl) (getm hx1) rfl rfl) rfl rfl ?_
    refine sy (.t ⟨false, [.d (dB (decide ((x1.Typ) = (1))))]⟩) (y_bin rfl (e rfl rfl) (ec rfl) (fun _ => b_eql) rfl) rfl rfl ?_
    refine sy _ (zmv rfl (e rfl rfl)) rfl rfl ?_
    rcases Bool.eq_false_or_eq_true (decide ((x1.Typ) = (1))) with hg2 | hg2
    · replace hr := bf_t hg2 hr
      have hg2p := dec_t hg2
      refine gr rfl rfl rfl (eg rfl rfl) hg2 ?_
      refine sy _ (zmv rfl (e rfl rfl)) rfl rfl ?_
      refine gr rfl rfl rfl (eg rfl rfl) hg2 ?_
      refine sy _ (zmv rfl (e rfl rfl)) rfl rfl ?_
      refine gr rfl rfl rfl (eg rfl rfl) hg2 ?_
      refine sy (.t ⟨false, [.fe 6 (a0.map Record.cells) i 0]⟩) (zix tabOk rfl rfl rfl (e rfl rfl) (e rfl rfl) (ltm_of_some hx1)) rfl rfl ?_
      refine gr rfl rfl rfl (eg rfl rfl) hg2 ?_
      refine sy (.t ⟨false, [.fe 6 (a0.map Record.cells) i 0]⟩) (zfa tabOk rfl rfl rfl (e rfl rfl) rfl rfl) rfl rfl ?_
      refine gr rfl rfl rfl (eg rfl rfl) hg2 ?_
      refine sy (.t ⟨false, [.d (dS (x1.Name))]⟩) (zle tabOk rfl (e rfl rfl) (getm hx1) rfl rfl) rfl rfl ?_
      refine gr rfl rfl rfl (eg rfl rfl) hg2 ?_
      refine sy _ (zmv rfl (e rfl rfl)) rfl rfl ?_
      refine gr rfl rfl rfl (eg rfl rfl) hg2 ?_
      refine sy (.t ⟨false, [.d (dB (decide ((x1.Name) = (a1))))]⟩) (y_bin rfl (e rfl rfl) (e rfl rfl) (fun _ => b_seql) rfl) rfl rfl ?_
      refine sy (.t ⟨false, [.d (dB (decide ((x1.Name) = (a1))))]⟩) (zpt rfl (e rfl rfl) hg2 (e rfl rfl)) rfl rfl ?_
      refine sy _ (zmv rfl (e rfl rfl)) rfl rfl ?_
      rcases Bool.eq_false_or_eq_true (decide ((x1.Name) = (a1))) with hg3 | hg3
      · replace hr := bf_t hg3 hr
        have hg3p := dec_t hg3
        refine gr rfl rfl rfl (eg rfl rfl) hg3 ?_
        refine sy _ (zmv rfl (e rfl rfl)) rfl rfl ?_
        refine gr rfl rfl rfl (eg rfl rfl) hg3 ?_
        refine sy _ (zmv rfl (e rfl rfl)) rfl rfl ?_
        refine gr rfl rfl rfl (eg rfl rfl) hg3 ?_
        refine sy _ (zmv rfl (e rfl rfl)) rfl rfl ?_
        refine gr rfl rfl rfl (eg rfl rfl) hg3 ?_
        refine sy (.t ⟨false, [.fe 6 (a0.map Record.cells) i 0]⟩) (zix tabOk rfl rfl rfl (e rfl rfl) (e rfl rfl) (ltm_of_some hx1)) rfl rfl ?_
        refine gr rfl rfl rfl (eg rfl rfl) hg3 ?_
        refine sy (.t ⟨false, [.fe 6 (a0.map Record.cells) i 3]⟩) (zfa tabOk rfl rfl rfl (e rfl rfl) rfl rfl) rfl rfl ?_
        refine gr rfl rfl rfl (eg rfl rfl) hg3 ?_
        refine sy (.t ⟨false, [.d (dI (x1.N))]⟩) (zle tabOk rfl (e rfl rfl) (getm hx1) rfl rfl) rfl rfl ?_
        refine gr rfl rfl rfl (eg rfl rfl) hg3 ?_
        have hB2 := (hi1x3).1
        refine sd (.t ⟨false, [.d (dB (n_spec_l9HasInt l0 x1.N))]⟩) (zcall 3 (.t ⟨false, [.d (dB (n_spec_l9HasInt l0 x1.N))]⟩) [] rfl (tr_n_spec_l9HasInt l0 x1.N ⟨by (try simp only [List.length_append, List.length_cons, List.length_nil]); omega, trivial⟩) (ar (e rfl rfl) (.sr rfl le_all take_all .nil) (ar (e rfl rfl) (.d .nil) .nil)) rfl rfl rfl) rfl rfl rfl rfl ?_
        refine gr rfl rfl rfl (eg rfl rfl) hg3 ?_
        refine sy (.t ⟨false, [.d (dB (!(n_spec_l9HasInt l0 x1.N)))]⟩) (y_un rfl (e rfl rfl) (fun _ => u_not) rfl) rfl rfl ?_
        refine sy (.t ⟨false, [.d (dB (!(n_spec_l9HasInt l0 x1.N)))]⟩) (zpt rfl (e rfl rfl) hg3 (e rfl rfl)) rfl rfl ?_
        refine s_end ?_
        refine v_cond (e rfl rfl) (fun hb4 => ?_) fun hb4 => ?_
        · replace hr := bf_t hb4 hr
          have hn5 := not_t hb4
          refine v_reg ?_
          refine sy _ (zmv rfl (e rfl rfl)) rfl rfl ?_
          refine sy _ (zmv rfl (e rfl rfl)) rfl rfl ?_
          refine sy _ (zmv rfl (e rfl rfl)) rfl rfl ?_
          refine sy (.t ⟨false, [.fe 6 (a0.map Record.cells) i 0]⟩) (zix tabOk rfl rfl rfl (e rfl rfl) (e rfl rfl) (ltm_of_some hx1)) rfl rfl ?_
          refine sy (.t ⟨false, [.fe 6 (a0.map Record.cells) i 3]⟩) (zfa tabOk rfl rfl rfl (e rfl rfl) rfl rfl) rfl rfl ?_
          refine sy (.t ⟨false, [.d (dI (x1.N))]⟩) (zle tabOk rfl (e rfl rfl) (getm hx1) rfl rfl) rfl rfl ?_
          refine sbk 3 (.t ⟨false, [.sr 3 1 0 ((([x1.N] : List Int).map encI).length) ((([x1.N] : List Int).map encI).length)]⟩) (.row 1 (([x1.N] : List Int).map encI) true 1 0) (zbu tabOk rfl rfl rfl rfl (pd0 (e rfl rfl) rfl (.lf .nil) rfl .nil) rfl rfl) rfl rfl ?_
          refine sa 0 (.t ⟨false, [.sr 0 (g0 + 1) 0 (((l0 ++ ([x1.N] : List Int)).map encI).length) (((l0 ++ ([x1.N] : List Int)).map encI).length)]⟩) (.row 1 ((l0 ++ ([x1.N] : List Int)).map encI) true (g0 + 1) (w0 + 1)) (zap tabOk rfl rfl rfl rfl (e rfl rfl) rfl rfl (e rfl rfl) (.flat rfl le_all take_all (flat_I _)) (ap_big (by simp only [List.length_map, List.length_cons, List.length_nil]; omega) rfl) map_app len_app) rfl rfl ?_
          refine sy _ (zas rfl (e rfl rfl)) rfl rfl ?_
          refine s_end ?_
          refine blk_norm ?_
          refine v_reg ?_
          refine sy _ (zmv rfl (e rfl rfl)) rfl rfl ?_
          refine sy (.t ⟨false, [.d (dI (i + 1 : Int))]⟩) (y_bin rfl (e rfl rfl) (ec rfl) (fun _ => b_addn (by omega) (by omega)) rfl) rfl rfl ?_
          refine sy _ (zas rfl (e rfl rfl)) rfl rfl ?_
          refine s_end ?_
          exact lp_next (n, l0 ++ ([x1.N] : List Int), i + 1, g0 + 1, w0 + 1) ⟨hr, by (try simp only [List.length_append, List.length_cons, List.length_nil, List.length_set]); first | done | omega, by (try simp only [List.length_append, List.length_cons, List.length_nil, List.length_set]); first | done | omega, by (try simp only [List.length_append, List.length_cons, List.length_nil, List.length_set]); first | done | omega, fitL_snoc hi1x3 (by omega) trivial⟩ (Nat.lt_succ_self _) ⟨rfl, rfl, rfl, rfl, trivial⟩ ⟨rfl, trivial⟩ rfl
        replace hr := bf_f hb4 hr
        have hn6 := not_f hb4
        refine v_skip ?_
        refine blk_norm ?_
        refine v_reg ?_
        refine sy _ (zmv rfl (e rfl rfl)) rfl rfl ?_
        refine sy (.t ⟨false, [.d (dI (i + 1 : Int))]⟩) (y_bin rfl (e rfl rfl) (ec rfl) (fun _ => b_addn (by omega) (by omega)) rfl) rfl rfl ?_
        refine sy _ (zas rfl (e rfl rfl)) rfl rfl ?_
        refine s_end ?_
        exact lp_next (n, l0, i + 1, g0, w0) ⟨hr, by (try simp only [List.length_append, List.length_cons, List.length_nil, List.length_set]); first | done | omega, by (try simp only [List.length_append, List.length_cons, List.length_nil, List.length_set]); first | done | omega, by (try simp only [List.length_append, List.length_cons, List.length_nil, List.length_set]); first | done | omega, hi1x3⟩ (Nat.lt_succ_self _) ⟨rfl, rfl, rfl, rfl, trivial⟩ ⟨rfl, trivial⟩ rfl
      replace hr := bf_f hg3 hr
      have hg3p := dec_f hg3
      refine gs rfl rfl rfl (eg rfl rfl) hg3 rfl ?_
      refine gs rfl rfl rfl (eg rfl rfl) hg3 rfl ?_
      refine gs rfl rfl rfl (eg rfl rfl) hg3 rfl ?_
      refine gs rfl rfl rfl (eg rfl rfl) hg3 rfl ?_
      refine gs rfl rfl rfl (eg rfl rfl) hg3 rfl ?_
      refine gs rfl rfl rfl (eg rfl rfl) hg3 rfl ?_
      refine gs rfl rfl rfl (eg rfl rfl) hg3 rfl ?_
      refine gs rfl rfl rfl (eg rfl rfl) hg3 rfl ?_
      refine sy (.t ⟨false, [.d (dB (false))]⟩) (zpf rfl (e rfl rfl) hg3 (ec rfl)) rfl rfl ?_
      refine s_end ?_
      refine v_cF (e rfl rfl) rfl ?_
      refine v_skip ?_
      refine blk_norm ?_
      refine v_reg ?_
      refine sy _ (zmv rfl (e rfl rfl)) rfl rfl ?_
      refine sy (.t ⟨false, [.d (dI (i + 1 : Int))]⟩) (y_bin rfl (e rfl rfl) (ec rfl) (fun _ => b_addn (by omega) (by omega)) rfl) rfl rfl ?_
      refine sy _ (zas rfl (e rfl rfl)) rfl rfl ?_
      refine s_end ?_
      exact lp_next (n, l0, i + 1, g0, w0) ⟨hr, by (try simp only [List.length_append, List.length_cons, List.length_nil, List.length_set]); first | done | omega, by (try simp only [List.length_append, List.length_cons, List.length_nil, List.length_set]); first | done | omega, by (try simp only [List.length_append, List.length_cons, List.length_nil, List.length_set]); first | done | omega, hi1x3⟩ (Nat.lt_succ_self _) ⟨rfl, rfl, rfl, rfl, trivial⟩ ⟨rfl, trivial⟩ rfl
    replace hr := bf_f hg2 hr
    have hg2p := dec_f hg2
    refine gs rfl rfl rfl (eg rfl rfl) hg2 rfl ?_
    refine gs rfl rfl rfl (eg rfl rfl) hg2 rfl ?_
    refine gs rfl rfl rfl (eg rfl rfl) hg2 rfl ?_
    refine gs rfl rfl rfl (eg rfl rfl) hg2 rfl ?_
    refine gs rfl rfl rfl (eg rfl rfl) hg2 rfl ?_
    refine gs rfl rfl rfl (eg rfl rfl) hg2 rfl ?_
    refine gs rfl rfl rfl (eg rfl rfl) hg2 rfl ?_
    refine sy (.t ⟨false, [.d (dB (false))]⟩) (zpf rfl (e rfl rfl) hg2 (ec rfl)) rfl rfl ?_
    refine sy _ (zmv rfl (e rfl rfl)) rfl rfl ?_
    refine gs rfl rfl rfl (eg rfl rfl) rfl rfl ?_
    refine gs rfl rfl rfl (eg rfl rfl) rfl rfl ?_
    refine gs rfl rfl rfl (eg rfl rfl) rfl rfl ?_
    refine gs rfl rfl rfl (eg rfl rfl) rfl rfl ?_
    refine gs rfl rfl rfl (eg rfl rfl) rfl rfl ?_
    refine gs rfl rfl rfl (eg rfl rfl) rfl rfl ?_
    refine gs rfl rfl rfl (eg rfl rfl) rfl rfl ?_
    refine gs rfl rfl rfl (eg rfl rfl) rfl rfl ?_
    refine sy (.t ⟨false, [.d (dB (false))]⟩) (zpf rfl (e rfl rfl) rfl (ec rfl)) rfl rfl ?_
    refine s_end ?_
    refine v_cF (e rfl rfl) rfl ?_
    refine v_skip ?_
    refine blk_norm ?_
    refine v_reg ?_
    refine sy _ (zmv rfl (e rfl rfl)) rfl rfl ?_
    refine sy (.t ⟨false, [.d (dI (i + 1 : Int))]⟩) (y_bin rfl (e rfl rfl) (ec rfl) (fun _ => b_addn (by omega) (by omega)) rfl) rfl rfl ?_
    refine sy _ (zas rfl (e rfl rfl)) rfl rfl ?_
    refine s_end ?_
    exact lp_next (n, l0, i + 1, g0, w0) ⟨hr, by (try simp only [List.length_append, List.length_cons, List.length_nil, List.length_set]); first | done | omega, by (try simp only [List.length_append, List.length_cons, List.length_nil, List.length_set]); first | done | omega, by (try simp only [List.length_append, List.length_cons, List.length_nil, List.length_set]); first | done | omega, hi1x3⟩ (Nat.lt_succ_self _) ⟨rfl, rfl, rfl, rfl, trivial⟩ ⟨rfl, trivial⟩ rfl
  replace hr := bf_f hb1 hr
  have hb1p := dec_f hb1
  refine v_exit ?_
  refine then_exit ?_
  refine loop_exit ?_
  refine blk_hit ?_
  refine v_seq ?_
  refine v_reg ?_
  refine sy _ (zmv rfl (e rfl rfl)) rfl rfl ?_
  refine sy _ (zas rfl (e rfl rfl)) rfl rfl ?_
  refine s_end ?_
  refine v_ret ?_
  subst hr
  exact post_ret (rv (.tmp (eg rfl rfl)) rfl (.sr rfl le_all take_all .nil) rfl .nil) (.ro (.ro .nil)) rfl
set_option maxHeartbeats 4000000 in
theorem fitx_n_spec_Addrs (a0 : List Record) (a1 : ByteArray) (h0 : fitL Record.Fit a0) (h1 : fitS a1) : fitL fitU (n_spec_Addrs a0 a1) := by
  obtain ⟨r, hr⟩ : ∃ r, n_spec_Addrs a0 a1 = r := ⟨_, rfl⟩
  rw [hr]
  rw [n_spec_Addrs] at hr
  refine fx_lp (fun (q : Nat × List Int × Nat × Nat × Nat) => n_spec_AddrsL1 a0 a1 q.1 q.2.1 q.2.2.1 = r ∧ (q.2.2.1 ≤ (a0).length) ∧ (q.2.2.1 + q.1 = (a0).length + 1) ∧ (q.2.1.length ≤ q.2.2.1) ∧ (fitL fitU q.2.1)) (fun q => q.1) ((a0).length + 1, (([] : List Int) : List Int), (0 : Nat), 1, 0) ⟨hr, by (try dsimp only); (try simp only [List.length_nil, List.length_cons, List.length_replicate]); first | done | omega | exact Nat.zero_le _, by (try dsimp only); (try simp only [List.length_nil, List.length_cons, List.length_replicate]); first | done | omega | exact Nat.zero_le _, by (try dsimp only); (try simp only [List.length_nil, List.length_cons, List.length_replicate]); first | done | omega | exact Nat.zero_le _, fitL_nil⟩ (fun q hq hn1 => ?_)
  obtain ⟨n, l0, i, g0, w0⟩ := q
  obtain ⟨hr, hi1x0, hi1x1, hi1x2, hi1x3⟩ := hq
  dsimp only at hr hi1x0 hi1x1 hi1x2 hi1x3
  rcases n with _ | n
  · exfalso; omega
  rw [n_spec_AddrsL1] at hr
  have hB1 : (a0).length ≤ _ := (h0).1
  rcases Bool.eq_false_or_eq_true (decide (((i : Int)) < (((a0).length : Int)))) with hb1 | hb1
  · replace hr := bf_t hb1 hr
    have hb1p := dec_t hb1
    obtain ⟨x1, hx1⟩ : ∃ x, (a0)[i]? = some x := some_of_lt (by omega)
    replace hr := at_step hx1 hr
    have hfx1 := h0.2 _ (List.mem_of_getElem? hx1)
    rcases Bool.eq_false_or_eq_true (decide ((x1.Typ) = (1))) with hg2 | hg2
    · replace hr := bf_t hg2 hr
      have hg2p := dec_t hg2
      rcases Bool.eq_false_or_eq_true (decide ((x1.Name) = (a1))) with hg3 | hg3
      · replace hr := bf_t hg3 hr
        have hg3p := dec_t hg3
        have hB2 : (l0).length ≤ _ := (hi1x3).1
        rcases Bool.eq_false_or_eq_true (!(n_spec_l9HasInt l0 x1.N)) with hb4 | hb4
        · replace hr := bf_t hb4 hr
          have hn5 := not_t hb4
          exact hn1 (n, l0 ++ ([x1.N] : List Int), i + 1, g0 + 1, w0 + 1) (Nat.lt_succ_self _) ⟨hr, by (try simp only [List.length_append, List.length_cons, List.length_nil, List.length_set]); first | done | omega, by (try simp only [List.length_append, List.length_cons, List.length_nil, List.length_set]); first | done | omega, by (try simp only [List.length_append, List.length_cons, List.length_nil, List.length_set]); first | done | omega, fitL_snoc hi1x3 (by omega) trivial⟩
        replace hr := bf_f hb4 hr
        have hn6 := not_f hb4
        exact hn1 (n, l0, i + 1, g0, w0) (Nat.lt_succ_self _) ⟨hr, by (try simp only [List.length_append, List.length_cons, List.length_nil, List.length_set]); first | done | omega, by (try simp only [List.length_append, List.length_cons, List.length_nil, List.length_set]); first | done | omega, by (try simp only [List.length_append, List.length_cons, List.length_nil, List.length_set]); first | done | omega, hi1x3⟩
      replace hr := bf_f hg3 hr
      have hg3p := dec_f hg3
      exact hn1 (n, l0, i + 1, g0, w0) (Nat.lt_succ_self _) ⟨hr, by (try simp only [List.length_append, List.length_cons, List.length_nil, List.length_set]); first | done | omega, by (try simp only [List.length_append, List.length_cons, List.length_nil, List.length_set]); first | done | omega, by (try simp only [List.length_append, List.length_cons, List.length_nil, List.length_set]); first | done | omega, hi1x3⟩
    replace hr := bf_f hg2 hr
    have hg2p := dec_f hg2
    exact hn1 (n, l0, i + 1, g0, w0) (Nat.lt_succ_self _) ⟨hr, by (try simp only [List.length_append, List.length_cons, List.length_nil, List.length_set]); first | done | omega, by (try simp only [List.length_append, List.length_cons, List.length_nil, List.length_set]); first | done | omega, by (try simp only [List.length_append, List.length_cons, List.length_nil, List.length_set]); first | done | omega, hi1x3⟩
  replace hr := bf_f hb1 hr
  have hb1p := dec_f hb1
  subst hr
  exact hi1x3
def n_impl_AddrsL1 (a0 : List Record) (a1 : ByteArray) : Nat → (List Int) → Nat → (List Int)
  | 0, _, _ => default
  | n + 1, l0, z11 => cond (decide (((z11 : Int)) < (((a0).length : Int)))) (atL (a0) (z11) (fun x1 => cond (decide ((x1.Typ) = (1))) (cond (decide ((x1.Name) = (a1))) (cond (!(n_slices_Contains_int l0 x1.N)) (n_impl_AddrsL1 a0 a1 n (l0 ++ ([x1.N] : List Int)) (z11 + 1)) (n_impl_AddrsL1 a0 a1 n l0 (z11 + 1))) (n_impl_AddrsL1 a0 a1 n l0 (z11 + 1))) (n_impl_AddrsL1 a0 a1 n l0 (z11 + 1)))) (l0)
def n_impl_Addrs (a0 : List Record) (a1 : ByteArray) : List Int := n_impl_AddrsL1 a0 a1 ((a0).length + 1) (([] : List Int)) 0
set_option maxHeartbeats 4000000 in
set_option maxRecDepth 20000 in
theorem tr_n_impl_Addrs (a0 : List Record) (a1 : ByteArray) (h0 : fitL Record.Fit a0) (h1 : fitS a1) : Tr Tryz.prog 69 [.ro ⟨false, [.sl 6 (a0.map Record.cells)]⟩, .ro ⟨false, [dS (a1)]⟩] [⟨false, [.sl 1 (((n_impl_Addrs a0 a1)).map encI)]⟩] := by
  obtain ⟨r, hr⟩ : ∃ r, n_impl_Addrs a0 a1 = r := ⟨_, rfl⟩
  rw [hr]
  rw [n_impl_Addrs] at hr
  refine tr_go tabOk Tryz.func69 rfl rfl rfl rfl rfl (ov := [(0, .t ⟨false, [.d (.sl 6 (a0.map Record.cells))]⟩), (1, .t ⟨false, [.d (dS (a1))]⟩)]) (hv := []) rfl rfl ?_
  refine v_seq ?_
  refine v_reg ?_
  refine sy _ (zas rfl (en 1)) rfl rfl ?_
  refine s_end ?_
  refine v_seq ?_
  refine v_reg ?_
  refine sbk 0 (.t ⟨false, [.sr 0 1 0 ((([] : List Int).map encI).length) ((([] : List Int).map encI).length)]⟩) (.row 1 (([] : List Int).map encI) true 1 0) (zbu tabOk rfl rfl rfl rfl .nil rfl rfl) rfl rfl ?_
  refine sy _ (zas rfl (e rfl rfl)) rfl rfl ?_
  refine s_end ?_
  refine v_seq ?_
  refine v_seq ?_
  refine v_reg ?_
  refine sy _ (zmv rfl (e rfl rfl)) rfl rfl ?_
  have hB1 := (h0).1
  refine sy (.t ⟨false, [.d (dI ((a0).length : Int))]⟩) (zlm tabOk rfl rfl (e rfl rfl) .d) rfl rfl ?_
  refine sy _ (zmv rfl (ec rfl)) rfl rfl ?_
  refine s_end ?_
  refine v_block ?_
  refine v_lp (fun (q : Nat × List Int × Nat × Nat × Nat) => [(1, .t ⟨false, [.d (dS (a1))]⟩), (5, .t ⟨false, [.sr 0 q.2.2.2.1 0 (((q.2.1).map encI).length) (((q.2.1).map encI).length)]⟩), (9, .t ⟨false, [.d (.sl 6 (a0.map Record.cells))]⟩), (10, .t ⟨false, [.d (dI ((a0).length : Int))]⟩), (11, .t ⟨false, [.d (dI (q.2.2.1 : Int))]⟩)]) (fun q => [(0, .row 1 ((q.2.1).map encI) true q.2.2.2.1 q.2.2.2.2)]) (fun q => n_impl_AddrsL1 a0 a1 q.1 q.2.1 q.2.2.1 = r ∧ (q.2.2.1 ≤ (a0).length) ∧ (q.2.2.1 + q.1 = (a0).length + 1) ∧ (q.2.1.length ≤ q.2.2.1) ∧ (fitL fitU q.2.1)) (fun q => q.1) ((a0).length + 1, (([] : List Int) : List Int), (0 : Nat), 1, 0) ⟨hr, by (try dsimp only); (try simp only [List.length_nil, List.length_cons, List.length_replicate]); first | done | omega | exact Nat.zero_le _, by (try dsimp only); (try simp only [List.length_nil, List.length_cons, List.length_replicate]); first | done | omega | exact Nat.zero_le _, by (try dsimp only); (try simp only [List.length_nil, List.length_cons, List.length_replicate]); first | done | omega | exact Nat.zero_le _, fitL_nil⟩ ⟨rfl, rfl, rfl, rfl, rfl, trivial⟩ ⟨rfl, trivial⟩ rfl (fun q hq => ?_)
  obtain ⟨n, l0, z11, g0, w0⟩ := q
  obtain ⟨hr, hi1x0, hi1x1, hi1x2, hi1x3⟩ := hq
  dsimp only at hr hi1x0 hi1x1 hi1x2 hi1x3
  show VWp _ _ _ (mk [(1, .t ⟨false, [.d (dS (a1))]⟩), (5, .t ⟨false, [.sr 0 g0 0 (((l0).map encI).length) (((l0).map encI).length)]⟩), (9, .t ⟨false, [.d (.sl 6 (a0.map Record.cells))]⟩), (10, .t ⟨false, [.d (dI ((a0).length : Int))]⟩), (11, .t ⟨false, [.d (dI (z11 : Int))]⟩)] _ [(0, .row 1 ((l0).map encI) true g0 w0)])
  rcases n with _ | n
  · exfalso; omega
  rw [n_impl_AddrsL1] at hr
  refine v_seq ?_
  refine v_reg ?_
  refine sy (.t ⟨false, [.d (dB (decide (((z11 : Int)) < (((a0).length : Int)))))]⟩) (y_bin rfl (e rfl rfl) (e rfl rfl) (fun _ => b_lss) rfl) rfl rfl ?_
  refine s_end ?_
  refine v_seq ?_
  refine v_cond (e rfl rfl) (fun hb1 => ?_) fun hb1 => ?_
  · replace hr := bf_t hb1 hr
    have hb1p := dec_t hb1
    refine v_skip ?_
    refine v_seq ?_
    refine v_block ?_
    refine v_seq ?_
    refine v_reg ?_
    obtain ⟨x1, hx1⟩ : ∃ x, (a0)[z11]? = some x := some_of_lt (by omega)
    replace hr := at_step hx1 hr
    have hfx1 := h0.2 _ (List.mem_of_getElem? hx1)
    refine sy (.t ⟨false, [.fe 6 (a0.map Record.cells) z11 0]⟩) (zix tabOk rfl rfl rfl (e rfl rfl) (e rfl rfl) (ltm_of_some hx1)) rfl rfl ?_
    refine sy (.t ⟨true, [.d (dS (x1.Name)), .d (dI (x1.Typ)), .d (dI (x1.Ttl)), .d (dI (x1.N)), .d (dS (x1.Host)), .d (dS (x1.Text))]⟩) (zle tabOk rfl (e rfl rfl) (getm hx1) rfl rfl) rfl rfl ?_
    refine sr 5 (.t ⟨false, [.vp 5 0]⟩) (.var [.d (dS (⟨#[]⟩)), .d (dI (0)), .d (dI (0)), .d (dI (0)), .d (dS (⟨#[]⟩)), .d (dS (⟨#[]⟩))]) (zal tabOk rfl rfl rfl rfl) rfl rfl ?_
    refine sw 5 (.var [.d (dS (x1.Name)), .d (dI (x1.Typ)), .d (dI (x1.Ttl)), .d (dI (x1.N)), .d (dS (x1.Host)), .d (dS (x1.Text))]) (zst tabOk rfl (e rfl rfl) rfl (e rfl rfl) rfl rfl rfl) rfl rfl ?_
    refine s_end ?_
    refine v_seq ?_
    refine v_reg ?_
    refine sy (.t ⟨false, [.vp 5 1]⟩) (zfa tabOk rfl rfl rfl (e rfl rfl) rfl rfl) rfl rfl ?_
    refine sy (.t ⟨false, [.d (dI (x1.Typ))]⟩) (zlv tabOk rfl (e rfl rfl) rfl rfl rfl) rfl rfl ?_
    refine sy (.t ⟨false, [.d (dB (decide ((x1.Typ) = (1))))]⟩) (y_bin rfl (e rfl rfl) (ec rfl) (fun _ => b_eql) rfl) rfl rfl ?_
    refine sy _ (zmv rfl (e rfl rfl)) rfl rfl ?_
    rcases Bool.eq_false_or_eq_true (decide ((x1.Typ) = (1))) with hg2 | hg2
    · replace hr := bf_t hg2 hr
      have hg2p := dec_t hg2
      refine gr rfl rfl rfl (eg rfl rfl) hg2 ?_
      refine sy (.t ⟨false, [.vp 5 0]⟩) (zfa tabOk rfl rfl rfl (e rfl rfl) rfl rfl) rfl rfl ?_
      refine gr rfl rfl rfl (eg rfl rfl) hg2 ?_
      refine sy (.t ⟨false, [.d (dS (x1.Name))]⟩) (zlv tabOk rfl (e rfl rfl) rfl rfl rfl) rfl rfl ?_
      refine gr rfl rfl rfl (eg rfl rfl) hg2 ?_
      refine sy _ (zmv rfl (e rfl rfl)) rfl rfl ?_
      refine gr rfl rfl rfl (eg rfl rfl) hg2 ?_
      refine sy (.t ⟨false, [.d (dB (decide ((x1.Name) = (a1))))]⟩) (y_bin rfl (e rfl rfl) (e rfl rfl) (fun _ => b_seql) rfl) rfl rfl ?_
      refine sy (.t ⟨false, [.d (dB (decide ((x1.Name) = (a1))))]⟩) (zpt rfl (e rfl rfl) hg2 (e rfl rfl)) rfl rfl ?_
      refine sy _ (zmv rfl (e rfl rfl)) rfl rfl ?_
      rcases Bool.eq_false_or_eq_true (decide ((x1.Name) = (a1))) with hg3 | hg3
      · replace hr := bf_t hg3 hr
        have hg3p := dec_t hg3
        refine gr rfl rfl rfl (eg rfl rfl) hg3 ?_
        refine sy _ (zmv rfl (e rfl rfl)) rfl rfl ?_
        refine gr rfl rfl rfl (eg rfl rfl) hg3 ?_
        refine sy (.t ⟨false, [.vp 5 3]⟩) (zfa tabOk rfl rfl rfl (e rfl rfl) rfl rfl) rfl rfl ?_
        refine gr rfl rfl rfl (eg rfl rfl) hg3 ?_
        refine sy (.t ⟨false, [.d (dI (x1.N))]⟩) (zlv tabOk rfl (e rfl rfl) rfl rfl rfl) rfl rfl ?_
        refine gr rfl rfl rfl (eg rfl rfl) hg3 ?_
        have hB2 := (hi1x3).1
        refine sd (.t ⟨false, [.d (dB (n_slices_Contains_int l0 x1.N))]⟩) (zcall 6 (.t ⟨false, [.d (dB (n_slices_Contains_int l0 x1.N))]⟩) [] rfl (tr_n_slices_Contains_int l0 x1.N ⟨by (try simp only [List.length_append, List.length_cons, List.length_nil]); omega, trivial⟩) (ar (e rfl rfl) (.sr rfl le_all take_all .nil) (ar (e rfl rfl) (.d .nil) .nil)) rfl rfl rfl) rfl rfl rfl rfl ?_
        refine gr rfl rfl rfl (eg rfl rfl) hg3 ?_
        refine sy (.t ⟨false, [.d (dB (!(n_slices_Contains_int l0 x1.N)))]⟩) (y_un rfl (e rfl rfl) (fun _ => u_not) rfl) rfl rfl ?_
        refine sy (.t ⟨false, [.d (dB (!(n_slices_Contains_int l0 x1.N)))]⟩) (zpt rfl (e rfl rfl) hg3 (e rfl rfl)) rfl rfl ?_
        refine s_end ?_
        refine v_cond (e rfl rfl) (fun hb4 => ?_) fun hb4 => ?_
        · replace hr := bf_t hb4 hr
          have hn5 := not_t hb4
          refine v_reg ?_
          refine sy _ (zmv rfl (e rfl rfl)) rfl rfl ?_
          refine sy (.t ⟨false, [.vp 5 3]⟩) (zfa tabOk rfl rfl rfl (e rfl rfl) rfl rfl) rfl rfl ?_
          refine sy (.t ⟨false, [.d (dI (x1.N))]⟩) (zlv tabOk rfl (e rfl rfl) rfl rfl rfl) rfl rfl ?_
          refine sbk 6 (.t ⟨false, [.sr 6 1 0 ((([x1.N] : List Int).map encI).length) ((([x1.N] : List Int).map encI).length)]⟩) (.row 1 (([x1.N] : List Int).map encI) true 1 0) (zbu tabOk rfl rfl rfl rfl (pd0 (e rfl rfl) rfl (.lf .nil) rfl .nil) rfl rfl) rfl rfl ?_
          refine sa 0 (.t ⟨false, [.sr 0 (g0 + 1) 0 (((l0 ++ ([x1.N] : List Int)).map encI).length) (((l0 ++ ([x1.N] : List Int)).map encI).length)]⟩) (.row 1 ((l0 ++ ([x1.N] : List Int)).map encI) true (g0 + 1) (w0 + 1)) (zap tabOk rfl rfl rfl rfl (e rfl rfl) rfl rfl (e rfl rfl) (.flat rfl le_all take_all (flat_I _)) (ap_big (by simp only [List.length_map, List.length_cons, List.length_nil]; omega) rfl) map_app len_app) rfl rfl ?_
          refine sy _ (zas rfl (e rfl rfl)) rfl rfl ?_
          refine s_end ?_
          refine blk_norm ?_
          refine v_reg ?_
          refine sy (.t ⟨false, [.d (dI (z11 + 1 : Int))]⟩) (y_bin rfl (e rfl rfl) (ec rfl) (fun _ => b_addn (by omega) (by omega)) rfl) rfl rfl ?_
          refine sy _ (zmv rfl (e rfl rfl)) rfl rfl ?_
          refine s_end ?_
          exact lp_next (n, l0 ++ ([x1.N] : List Int), z11 + 1, g0 + 1, w0 + 1) ⟨hr, by (try simp only [List.length_append, List.length_cons, List.length_nil, List.length_set]); first | done | omega, by (try simp only [List.length_append, List.length_cons, List.length_nil, List.length_set]); first | done | omega, by (try simp only [List.length_append, List.length_cons, List.length_nil, List.length_set]); first | done | omega, fitL_snoc hi1x3 (by omega) trivial⟩ (Nat.lt_succ_self _) ⟨rfl, rfl, rfl, rfl, rfl, trivial⟩ ⟨rfl, trivial⟩ rfl
        replace hr := bf_f hb4 hr
        have hn6 := not_f hb4
        refine v_skip ?_
        refine blk_norm ?_
        refine v_reg ?_
        refine sy (.t ⟨false, [.d (dI (z11 + 1 : Int))]⟩) (y_bin rfl (e rfl rfl) (ec rfl) (fun _ => b_addn (by omega) (by omega)) rfl) rfl rfl ?_
        refine sy _ (zmv rfl (e rfl rfl)) rfl rfl ?_
        refine s_end ?_
        exact lp_next (n, l0, z11 + 1, g0, w0) ⟨hr, by (try simp only [List.length_append, List.length_cons, List.length_nil, List.length_set]); first | done | omega, by (try simp only [List.length_append, List.length_cons, List.length_nil, List.length_set]); first | done | omega, by (try simp only [List.length_append, List.length_cons, List.length_nil, List.length_set]); first | done | omega, hi1x3⟩ (Nat.lt_succ_self _) ⟨rfl, rfl, rfl, rfl, rfl, trivial⟩ ⟨rfl, trivial⟩ rfl
      replace hr := bf_f hg3 hr
      have hg3p := dec_f hg3
      refine gs rfl rfl rfl (eg rfl rfl) hg3 rfl ?_
      refine gs rfl rfl rfl (eg rfl rfl) hg3 rfl ?_
      refine gs rfl rfl rfl (eg rfl rfl) hg3 rfl ?_
      refine gs rfl rfl rfl (eg rfl rfl) hg3 rfl ?_
      refine gs rfl rfl rfl (eg rfl rfl) hg3 rfl ?_
      refine sy (.t ⟨false, [.d (dB (false))]⟩) (zpf rfl (e rfl rfl) hg3 (ec rfl)) rfl rfl ?_
      refine s_end ?_
      refine v_cF (e rfl rfl) rfl ?_
      refine v_skip ?_
      refine blk_norm ?_
      refine v_reg ?_
      refine sy (.t ⟨false, [.d (dI (z11 + 1 : Int))]⟩) (y_bin rfl (e rfl rfl) (ec rfl) (fun _ => b_addn (by omega) (by omega)) rfl) rfl rfl ?_
      refine sy _ (zmv rfl (e rfl rfl)) rfl rfl ?_
      refine s_end ?_
      exact lp_next (n, l0, z11 + 1, g0, w0) ⟨hr, by (try simp only [List.length_append, List.length_cons, List.length_nil, List.length_set]); first | done | omega, by (try simp only [List.length_append, List.length_cons, List.length_nil, List.length_set]); first | done | omega, by (try simp only [List.length_append, List.length_cons, List.length_nil, List.length_set]); first | done | omega, hi1x3⟩ (Nat.lt_succ_self _) ⟨rfl, rfl, rfl, rfl, rfl, trivial⟩ ⟨rfl, trivial⟩ rfl
    replace hr := bf_f hg2 hr
    have hg2p := dec_f hg2
    refine gs rfl rfl rfl (eg rfl rfl) hg2 rfl ?_
    refine gs rfl rfl rfl (eg rfl rfl) hg2 rfl ?_
    refine gs rfl rfl rfl (eg rfl rfl) hg2 rfl ?_
    refine gs rfl rfl rfl (eg rfl rfl) hg2 rfl ?_
    refine sy (.t ⟨false, [.d (dB (false))]⟩) (zpf rfl (e rfl rfl) hg2 (ec rfl)) rfl rfl ?_
    refine sy _ (zmv rfl (e rfl rfl)) rfl rfl ?_
    refine gs rfl rfl rfl (eg rfl rfl) rfl rfl ?_
    refine gs rfl rfl rfl (eg rfl rfl) rfl rfl ?_
    refine gs rfl rfl rfl (eg rfl rfl) rfl rfl ?_
    refine gs rfl rfl rfl (eg rfl rfl) rfl rfl ?_
    refine gs rfl rfl rfl (eg rfl rfl) rfl rfl ?_
    refine sy (.t ⟨false, [.d (dB (false))]⟩) (zpf rfl (e rfl rfl) rfl (ec rfl)) rfl rfl ?_
    refine s_end ?_
    refine v_cF (e rfl rfl) rfl ?_
    refine v_skip ?_
    refine blk_norm ?_
    refine v_reg ?_
    refine sy (.t ⟨false, [.d (dI (z11 + 1 : Int))]⟩) (y_bin rfl (e rfl rfl) (ec rfl) (fun _ => b_addn (by omega) (by omega)) rfl) rfl rfl ?_
    refine sy _ (zmv rfl (e rfl rfl)) rfl rfl ?_
    refine s_end ?_
    exact lp_next (n, l0, z11 + 1, g0, w0) ⟨hr, by (try simp only [List.length_append, List.length_cons, List.length_nil, List.length_set]); first | done | omega, by (try simp only [List.length_append, List.length_cons, List.length_nil, List.length_set]); first | done | omega, by (try simp only [List.length_append, List.length_cons, List.length_nil, List.length_set]); first | done | omega, hi1x3⟩ (Nat.lt_succ_self _) ⟨rfl, rfl, rfl, rfl, rfl, trivial⟩ ⟨rfl, trivial⟩ rfl
  replace hr := bf_f hb1 hr
  have hb1p := dec_f hb1
  refine v_exit ?_
  refine then_exit ?_
  refine loop_exit ?_
  refine blk_hit ?_
  refine v_seq ?_
  refine v_reg ?_
  refine sy _ (zmv rfl (e rfl rfl)) rfl rfl ?_
  refine sy _ (zas rfl (e rfl rfl)) rfl rfl ?_
  refine s_end ?_
  refine v_ret ?_
  subst hr
  exact post_ret (rv (.tmp (eg rfl rfl)) rfl (.sr rfl le_all take_all .nil) rfl .nil) (.ro (.ro .nil)) rfl
set_option maxHeartbeats 4000000 in
theorem fitx_n_impl_Addrs (a0 : List Record) (a1 : ByteArray) (h0 : fitL Record.Fit a0) (h1 : fitS a1) : fitL fitU (n_impl_Addrs a0 a1) := by
  obtain ⟨r, hr⟩ : ∃ r, n_impl_Addrs a0 a1 = r := ⟨_, rfl⟩
  rw [hr]
  rw [n_impl_Addrs] at hr
  have hB1 : (a0).length ≤ _ := (h0).1
  refine fx_lp (fun (q : Nat × List Int × Nat × Nat × Nat) => n_impl_AddrsL1 a0 a1 q.1 q.2.1 q.2.2.1 = r ∧ (q.2.2.1 ≤ (a0).length) ∧ (q.2.2.1 + q.1 = (a0).length + 1) ∧ (q.2.1.length ≤ q.2.2.1) ∧ (fitL fitU q.2.1)) (fun q => q.1) ((a0).length + 1, (([] : List Int) : List Int), (0 : Nat), 1, 0) ⟨hr, by (try dsimp only); (try simp only [List.length_nil, List.length_cons, List.length_replicate]); first | done | omega | exact Nat.zero_le _, by (try dsimp only); (try simp only [List.length_nil, List.length_cons, List.length_replicate]); first | done | omega | exact Nat.zero_le _, by (try dsimp only); (try simp only [List.length_nil, List.length_cons, List.length_replicate]); first | done | omega | exact Nat.zero_le _, fitL_nil⟩ (fun q hq hn1 => ?_)
  obtain ⟨n, l0, z11, g0, w0⟩ := q
  obtain ⟨hr, hi1x0, hi1x1, hi1x2, hi1x3⟩ := hq
  dsimp only at hr hi1x0 hi1x1 hi1x2 hi1x3
  rcases n with _ | n
  · exfalso; omega
  rw [n_impl_AddrsL1] at hr
  rcases Bool.eq_false_or_eq_true (decide (((z11 : Int)) < (((a0).length : Int)))) with hb1 | hb1
  · replace hr := bf_t hb1 hr
    have hb1p := dec_t hb1
    obtain ⟨x1, hx1⟩ : ∃ x, (a0)[z11]? = some x := some_of_lt (by omega)
    replace hr := at_step hx1 hr
    have hfx1 := h0.2 _ (List.mem_of_getElem? hx1)
    rcases Bool.eq_false_or_eq_true (decide ((x1.Typ) = (1))) with hg2 | hg2
    · replace hr := bf_t hg2 hr
      have hg2p := dec_t hg2
      rcases Bool.eq_false_or_eq_true (decide ((x1.Name) = (a1))) with hg3 | hg3
      · replace hr := bf_t hg3 hr
        have hg3p := dec_t hg3
        have hB2 : (l0).length ≤ _ := (hi1x3).1
        rcases Bool.eq_false_or_eq_true (!(n_slices_Contains_int l0 x1.N)) with hb4 | hb4
        · replace hr := bf_t hb4 hr
          have hn5 := not_t hb4
          exact hn1 (n, l0 ++ ([x1.N] : List Int), z11 + 1, g0 + 1, w0 + 1) (Nat.lt_succ_self _) ⟨hr, by (try simp only [List.length_append, List.length_cons, List.length_nil, List.length_set]); first | done | omega, by (try simp only [List.length_append, List.length_cons, List.length_nil, List.length_set]); first | done | omega, by (try simp only [List.length_append, List.length_cons, List.length_nil, List.length_set]); first | done | omega, fitL_snoc hi1x3 (by omega) trivial⟩
        replace hr := bf_f hb4 hr
        have hn6 := not_f hb4
        exact hn1 (n, l0, z11 + 1, g0, w0) (Nat.lt_succ_self _) ⟨hr, by (try simp only [List.length_append, List.length_cons, List.length_nil, List.length_set]); first | done | omega, by (try simp only [List.length_append, List.length_cons, List.length_nil, List.length_set]); first | done | omega, by (try simp only [List.length_append, List.length_cons, List.length_nil, List.length_set]); first | done | omega, hi1x3⟩
      replace hr := bf_f hg3 hr
      have hg3p := dec_f hg3
      exact hn1 (n, l0, z11 + 1, g0, w0) (Nat.lt_succ_self _) ⟨hr, by (try simp only [List.length_append, List.length_cons, List.length_nil, List.length_set]); first | done | omega, by (try simp only [List.length_append, List.length_cons, List.length_nil, List.length_set]); first | done | omega, by (try simp only [List.length_append, List.length_cons, List.length_nil, List.length_set]); first | done | omega, hi1x3⟩
    replace hr := bf_f hg2 hr
    have hg2p := dec_f hg2
    exact hn1 (n, l0, z11 + 1, g0, w0) (Nat.lt_succ_self _) ⟨hr, by (try simp only [List.length_append, List.length_cons, List.length_nil, List.length_set]); first | done | omega, by (try simp only [List.length_append, List.length_cons, List.length_nil, List.length_set]); first | done | omega, by (try simp only [List.length_append, List.length_cons, List.length_nil, List.length_set]); first | done | omega, hi1x3⟩
  replace hr := bf_f hb1 hr
  have hb1p := dec_f hb1
  subst hr
  exact hi1x3
def n_slices_DeleteFunc_stringL1 (p1 : ByteArray → Bool) : Nat → (List ByteArray) → Int → Int → (List ByteArray)
  | 0, _, _, _ => default
  | n + 1, l0, i, j => cond (decide ((j) < (((l0).length : Int)))) (atL (l0) ((j).toNat) (fun x1 => cond (!(p1 x1)) (atL (l0) ((i).toNat) (fun x2 => n_slices_DeleteFunc_stringL1 p1 n ((l0).set ((i).toNat) x1) (i + 1) (j + 1))) (n_slices_DeleteFunc_stringL1 p1 n l0 i (j + 1)))) ((l0).take ((i).toNat))
def n_slices_DeleteFunc_string (a0 : List ByteArray) (p1 : ByteArray → Bool) : List ByteArray := cond (decide ((n_slices_IndexFunc_string a0 p1) = (-1))) (a0) (n_slices_DeleteFunc_stringL1 p1 (a0.length + 1) a0 (n_slices_IndexFunc_string a0 p1) (n_slices_IndexFunc_string a0 p1 + 1))
set_option maxHeartbeats 4000000 in
set_option maxRecDepth 20000 in
theorem tr_n_slices_DeleteFunc_string (a0 : List ByteArray) (g1 : FuncId) (dc1 : List Dat) (p1 : ByteArray → Bool) (h0 : fitL fitS a0) (hp1 : ∀ (x0 : ByteArray), fitS x0 → Tr Tryz.prog g1 ([.ro ⟨false, [dS (x0)]⟩] ++ capA dc1) [⟨false, [dB ((p1 x0))]⟩]) : Tr Tryz.prog 47 [.own ⟨false, [.sl 1 (a0.map encS)]⟩, .ro (one (.cl g1 dc1))] [⟨false, [.sl 1 (((n_slices_DeleteFunc_string a0 p1)).map encS)]⟩] := by
  obtain ⟨r, hr⟩ : ∃ r, n_slices_DeleteFunc_string a0 p1 = r := ⟨_, rfl⟩
  rw [hr]
  rw [n_slices_DeleteFunc_string] at hr
  have hl0 : a0.length ≤ 4194304 := h0.1
  refine tr_go tabOk Tryz.func47 rfl rfl rfl rfl rfl (ov := [(0, .t ⟨false, [.sr 0 0 0 ((a0.map encS).length) ((a0.map encS).length)]⟩), (1, .t ⟨false, [.d (.cl g1 dc1)]⟩)]) (hv := [(0, .row 1 (a0.map encS) true 0 0)]) rfl rfl ?_
  refine v_seq ?_
  refine v_reg ?_
  refine sy _ (zas rfl (en 1)) rfl rfl ?_
  refine s_end ?_
  refine v_seq ?_
  refine v_reg ?_
  refine sy _ (zmv rfl (e rfl rfl)) rfl rfl ?_
  refine sy _ (zmv rfl (e rfl rfl)) rfl rfl ?_
  have hq1 := n_slices_IndexFunc_string_rng a0 p1
  refine sd (.t ⟨false, [.d (dI (n_slices_IndexFunc_string a0 p1))]⟩) (zcall 1 (.t ⟨false, [.d (dI (n_slices_IndexFunc_string a0 p1))]⟩) [] rfl (tr_n_slices_IndexFunc_string a0 g1 dc1 p1 h0 hp1) (ar (e rfl rfl) (.sr rfl le_all take_all .nil) (ar (e rfl rfl) (.d .nil) .nil)) rfl rfl rfl) rfl rfl rfl rfl ?_
  refine sy _ (zas rfl (e rfl rfl)) rfl rfl ?_
  refine s_end ?_
  refine v_seq ?_
  refine v_seq ?_
  refine v_reg ?_
  refine sy _ (zmv rfl (e rfl rfl)) rfl rfl ?_
  refine sy (.t ⟨false, [.d (dB (decide ((n_slices_IndexFunc_string a0 p1) = (-1))))]⟩) (y_bin rfl (e rfl rfl) (ec rfl) (fun _ => b_eql) rfl) rfl rfl ?_
  refine s_end ?_
  refine v_cond (e rfl rfl) (fun hb2 => ?_) fun hb2 => ?_
  · replace hr := bf_t hb2 hr
    have hb2p := dec_t hb2
    refine v_seq ?_
    refine v_reg ?_
    refine sy _ (zmv rfl (e rfl rfl)) rfl rfl ?_
    refine sy _ (zas rfl (e rfl rfl)) rfl rfl ?_
    refine s_end ?_
    refine v_ret ?_
    subst hr
    exact post_ret (rv (.tmp (eg rfl rfl)) rfl (.sr rfl le_all take_all .nil) rfl .nil) (.own (.ro .nil)) rfl
  replace hr := bf_f hb2 hr
  have hb2p := dec_f hb2
  refine v_skip ?_
  refine v_seq ?_
  refine v_seq ?_
  refine v_reg ?_
  refine sy _ (zmv rfl (e rfl rfl)) rfl rfl ?_
  refine sy (.t ⟨false, [.d (dI (n_slices_IndexFunc_string a0 p1 + 1))]⟩) (y_bin rfl (e rfl rfl) (ec rfl) (fun _ => b_addn (by omega) (by omega)) rfl) rfl rfl ?_
  refine sy _ (zas rfl (e rfl rfl)) rfl rfl ?_
  refine s_end ?_
  refine v_block ?_
  refine v_lp (fun (q : Nat × List ByteArray × Int × Int × Nat × Nat) => [(0, .t ⟨false, [.sr 0 q.2.2.2.2.1 0 (((q.2.1).map encS).length) (((q.2.1).map encS).length)]⟩), (1, .t ⟨false, [.d (.cl g1 dc1)]⟩), (5, .t ⟨false, [.d (dI (q.2.2.1))]⟩), (6, .t ⟨false, [.d (dI (q.2.2.2.1))]⟩)]) (fun q => [(0, .row 1 ((q.2.1).map encS) true q.2.2.2.2.1 q.2.2.2.2.2)]) (fun q => n_slices_DeleteFunc_stringL1 p1 q.1 q.2.1 q.2.2.1 q.2.2.2.1 = r ∧ (0 ≤ q.2.2.1) ∧ (q.2.2.1 < q.2.2.2.1) ∧ (q.2.2.2.1 ≤ (a0.length : Int)) ∧ ((a0.length : Int) + 1 ≤ q.2.2.2.1 + (q.1 : Int)) ∧ (q.2.1.length = a0.length) ∧ (fitL fitS q.2.1)) (fun q => q.1) (a0.length + 1, (a0 : List ByteArray), (n_slices_IndexFunc_string a0 p1 : Int), (n_slices_IndexFunc_string a0 p1 + 1 : Int), 0, 0) ⟨hr, by (try dsimp only); (try simp only [List.length_nil, List.length_cons, List.length_replicate]); first | done | omega | exact Nat.zero_le _, by (try dsimp only); (try simp only [List.length_nil, List.length_cons, List.length_replicate]); first | done | omega | exact Nat.zero_le _, by (try dsimp only); (try simp only [List.length_nil, List.length_cons, List.length_replicate]); first | done | omega | exact Nat.zero_le _, by (try dsimp only); (try simp only [List.length_nil, List.length_cons, List.length_replicate]); first | done | omega | exact Nat.zero_le _, by (try dsimp only); (try simp only [List.length_nil, List.length_cons, List.length_replicate]); first | done | omega | exact Nat.zero_le _, h0⟩ ⟨rfl, rfl, rfl, rfl, trivial⟩ ⟨rfl, trivial⟩ rfl (fun q hq => ?_)
  obtain ⟨n, l0, i, j, g0, w0⟩ := q
  obtain ⟨hr, hi1x0, hi1x1, hi1x2, hi1x3, hi1x4, hi1x5⟩ := hq
  dsimp only at hr hi1x0 hi1x1 hi1x2 hi1x3 hi1x4 hi1x5
  show VWp _ _ _ (mk [(0, .t ⟨false, [.sr 0 g0 0 (((l0).map encS).length) (((l0).map encS).length)]⟩), (1, .t ⟨false, [.d (.cl g1 dc1)]⟩), (5, .t ⟨false, [.d (dI (i))]⟩), (6, .t ⟨false, [.d (dI (j))]⟩)] _ [(0, .row 1 ((l0).map encS) true g0 w0)])
  rcases n with _ | n
  · exfalso; omega
  rw [n_slices_DeleteFunc_stringL1] at hr
  refine v_seq ?_
  refine v_seq ?_
  refine v_reg ?_
  refine sy _ (zmv rfl (e rfl rfl)) rfl rfl ?_
  refine sy _ (zmv rfl (e rfl rfl)) rfl rfl ?_
  have hB1 := (hi1x5).1
  refine sy (.t ⟨false, [.d (dI ((l0).length : Int))]⟩) (zlm tabOk rfl rfl (e rfl rfl) (.sr (dp := 0) rfl)) rfl rfl ?_
  refine sy (.t ⟨false, [.d (dB (decide ((j) < (((l0).length : Int)))))]⟩) (y_bin rfl (e rfl rfl) (e rfl rfl) (fun _ => b_lss) rfl) rfl rfl ?_
  refine s_end ?_
  refine v_cond (e rfl rfl) (fun hb3 => ?_) fun hb3 => ?_
  · replace hr := bf_t hb3 hr
    have hb3p := dec_t hb3
    refine v_skip ?_
    refine v_seq ?_
    refine v_block ?_
    refine v_seq ?_
    refine v_reg ?_
    refine sy _ (zmv rfl (e rfl rfl)) rfl rfl ?_
    refine sy _ (zmv rfl (e rfl rfl)) rfl rfl ?_
    obtain ⟨x1, hx1⟩ : ∃ x, (l0)[(j).toNat]? = some x := some_of_lt (by omega)
    replace hr := at_step hx1 hr
    have hfx1 := hi1x5.2 _ (List.mem_of_getElem? hx1)
    refine sy (.t ⟨false, [.ep 0 g0 ((j).toNat) 0]⟩) (zisI tabOk rfl rfl rfl (e rfl rfl) rfl (e rfl rfl) (by omega) (ltm_of_some hx1) (Nat.zero_add _)) rfl rfl ?_
    refine sy (.t ⟨false, [.d (dS (x1))]⟩) (zlr tabOk rfl (e rfl rfl) rfl (getm hx1) rfl rfl) rfl rfl ?_
    refine sy _ (zas rfl (e rfl rfl)) rfl rfl ?_
    refine s_end ?_
    refine v_seq ?_
    refine v_reg ?_
    refine sy _ (zmv rfl (e rfl rfl)) rfl rfl ?_
    refine sy _ (zmv rfl (e rfl rfl)) rfl rfl ?_
    refine sd (.t ⟨false, [.d (dB (p1 x1))]⟩) (zcallv 1 (.t ⟨false, [.d (dB (p1 x1))]⟩) [] rfl (e rfl rfl) (hp1 x1 hfx1) (ar (e rfl rfl) (.d .nil) .nil) rfl (free0 rfl) rfl rfl) rfl rfl rfl rfl ?_
    refine sy (.t ⟨false, [.d (dB (!(p1 x1)))]⟩) (y_un rfl (e rfl rfl) (fun _ => u_not) rfl) rfl rfl ?_
    refine s_end ?_
    refine v_cond (e rfl rfl) (fun hb4 => ?_) fun hb4 => ?_
    · replace hr := bf_t hb4 hr
      have hn5 := not_t hb4
      refine v_seq ?_
      refine v_reg ?_
      refine sy _ (zmv rfl (e rfl rfl)) rfl rfl ?_
      refine sy _ (zmv rfl (e rfl rfl)) rfl rfl ?_
      refine sy _ (zmv rfl (e rfl rfl)) rfl rfl ?_
      obtain ⟨x2, hx2⟩ : ∃ x, (l0)[(i).toNat]? = some x := some_of_lt (by omega)
      replace hr := at_step hx2 hr
      have hfx2 := hi1x5.2 _ (List.mem_of_getElem? hx2)
      refine sy (.t ⟨false, [.ep 0 g0 ((i).toNat) 0]⟩) (zisI tabOk rfl rfl rfl (e rfl rfl) rfl (e rfl rfl) (by omega) (ltm_of_some hx2) (Nat.zero_add _)) rfl rfl ?_
      refine sw 0 (.row 1 (((l0).set ((i).toNat) x1).map encS) true g0 w0) (zsr0 tabOk rfl (e rfl rfl) rfl (getm hx2) (e rfl rfl) rfl (.lf .nil) rfl rfl (map_set rfl)) rfl rfl ?_
      refine s_end ?_
      refine v_reg ?_
      refine sy _ (zmv rfl (e rfl rfl)) rfl rfl ?_
      refine sy (.t ⟨false, [.d (dI (i + 1))]⟩) (y_bin rfl (e rfl rfl) (ec rfl) (fun _ => b_addn (by omega) (by omega)) rfl) rfl rfl ?_
      refine sy _ (zas rfl (e rfl rfl)) rfl rfl ?_
      refine s_end ?_
      refine blk_norm ?_
      refine v_reg ?_
      refine sy _ (zmv rfl (e rfl rfl)) rfl rfl ?_
      refine sy (.t ⟨false, [.d (dI (j + 1))]⟩) (y_bin rfl (e rfl rfl) (ec rfl) (fun _ => b_addn (by omega) (by omega)) rfl) rfl rfl ?_
      refine sy _ (zas rfl (e rfl rfl)) rfl rfl ?_
      refine s_end ?_
      exact lp_next (n, (l0).set ((i).toNat) x1, i + 1, j + 1, g0, w0) ⟨hr, by (try simp only [List.length_append, List.length_cons, List.length_nil, List.length_set]); first | done | omega, by (try simp only [List.length_append, List.length_cons, List.length_nil, List.length_set]); first | done | omega, by (try simp only [List.length_append, List.length_cons, List.length_nil, List.length_set]); first | done | omega, by (try simp only [List.length_append, List.length_cons, List.length_nil, List.length_set]); first | done | omega, by (try simp only [List.length_append, List.length_cons, List.length_nil, List.length_set]); first | done | omega, by first | assumption | exact fitL_set (by assumption) (by first | assumption | trivial)⟩ (Nat.lt_succ_self _) ⟨(show (.t ⟨false, [.sr 0 g0 0 (((l0).map encS).length) (((l0).map encS).length)]⟩ : Slot) = _ by simp only [List.length_map, List.length_set]), rfl, rfl, rfl, trivial⟩ ⟨rfl, trivial⟩ rfl
    replace hr := bf_f hb4 hr
    have hn6 := not_f hb4
    refine v_skip ?_
    refine blk_norm ?_
    refine v_reg ?_
    refine sy _ (zmv rfl (e rfl rfl)) rfl rfl ?_
    refine sy (.t ⟨false, [.d (dI (j + 1))]⟩) (y_bin rfl (e rfl rfl) (ec rfl) (fun _ => b_addn (by omega) (by omega)) rfl) rfl rfl ?_
    refine sy _ (zas rfl (e rfl rfl)) rfl rfl ?_
    refine s_end ?_
    exact lp_next (n, l0, i, j + 1, g0, w0) ⟨hr, by (try simp only [List.length_append, List.length_cons, List.length_nil, List.length_set]); first | done | omega, by (try simp only [List.length_append, List.length_cons, List.length_nil, List.length_set]); first | done | omega, by (try simp only [List.length_append, List.length_cons, List.length_nil, List.length_set]); first | done | omega, by (try simp only [List.length_append, List.length_cons, List.length_nil, List.length_set]); first | done | omega, by (try simp only [List.length_append, List.length_cons, List.length_nil, List.length_set]); first | done | omega, by first | assumption | exact fitL_set (by assumption) (by first | assumption | trivial)⟩ (Nat.lt_succ_self _) ⟨rfl, rfl, rfl, rfl, trivial⟩ ⟨rfl, trivial⟩ rfl
  replace hr := bf_f hb3 hr
  have hb3p := dec_f hb3
  refine v_exit ?_
  refine then_exit ?_
  refine loop_exit ?_
  refine blk_hit ?_
  refine v_seq ?_
  refine v_reg ?_
  refine sy _ (zmv rfl (e rfl rfl)) rfl rfl ?_
  refine sy _ (zmv rfl (e rfl rfl)) rfl rfl ?_
  have hl7 : (i).toNat < ((l0).map encS).length := by (try simp only [List.length_map, List.length_append, List.length_cons, List.length_nil, List.length_set]); omega
  have hl7u : ((l0).map encS).length ≤ ((l0).map encS).length := by (try simp only [List.length_map, List.length_append, List.length_cons, List.length_nil, List.length_set]); omega
  refine sy (.t ⟨false, [.sr 0 g0 (0 + ((i).toNat)) ((((l0).map encS).length) - ((i).toNat)) ((((l0).map encS).length) - ((i).toNat))]⟩) (zsp tabOk rfl rfl rfl (e rfl rfl) rfl (sbs (e rfl rfl) (by omega)) (sbn rfl) hl7 hl7u rfl) rfl rfl ?_
  refine sw 0 (.row 1 (((l0).take ((i).toNat)).map encS) true g0 (w0 + 1)) (zclr tabOk rfl rfl rfl (e rfl rfl) rfl (by simp only [List.length_map, List.length_set]; omega) (by rw [Nat.zero_add, List.map_take])) rfl rfl ?_
  refine s_end ?_
  refine v_seq ?_
  refine v_reg ?_
  refine sy _ (zmv rfl (e rfl rfl)) rfl rfl ?_
  refine sy _ (zmv rfl (e rfl rfl)) rfl rfl ?_
  have hB2 : ((l0).take ((i).toNat)).length ≤ _ := (fitL_take hi1x5).1
  have hl8 : (i).toNat ≤ ((l0).map encS).length := by (try simp only [List.length_map, List.length_append, List.length_cons, List.length_nil, List.length_set]); omega
  refine sy (.t ⟨false, [.sr 0 g0 0 ((i).toNat) (((l0).map encS).length)]⟩) (zso tabOk rfl rfl rfl (e rfl rfl) rfl (sbs (e rfl rfl) (by omega)) hl8) rfl rfl ?_
  refine sy _ (zas rfl (e rfl rfl)) rfl rfl ?_
  refine s_end ?_
  refine v_ret ?_
  subst hr
  exact post_ret (rv (.tmp (eg rfl rfl)) rfl (.sr rfl (by simp only [List.length_map, List.length_take]; omega) (by rw [List.drop_zero]; exact List.take_of_length_le (by simp only [List.length_map, List.length_take]; omega)) .nil) rfl .nil) (.own (.ro .nil)) rfl
set_option maxHeartbeats 4000000 in
theorem fitx_n_slices_DeleteFunc_string (a0 : List ByteArray) (p1 : ByteArray → Bool) (h0 : fitL fitS a0) : fitL fitS (n_slices_DeleteFunc_string a0 p1) := by
  obtain ⟨r, hr⟩ : ∃ r, n_slices_DeleteFunc_string a0 p1 = r := ⟨_, rfl⟩
  rw [hr]
  rw [n_slices_DeleteFunc_string] at hr
  have hl0 : a0.length ≤ 4194304 := h0.1
  have hq1 := n_slices_IndexFunc_string_rng a0 p1
  rcases Bool.eq_false_or_eq_true (decide ((n_slices_IndexFunc_string a0 p1) = (-1))) with hb2 | hb2
  · replace hr := bf_t hb2 hr
    have hb2p := dec_t hb2
    subst hr
    exact h0
  replace hr := bf_f hb2 hr
  have hb2p := dec_f hb2
  refine fx_lp (fun (q : Nat × List ByteArray × Int × Int × Nat × Nat) => n_slices_DeleteFunc_stringL1 p1 q.1 q.2.1 q.2.2.1 q.2.2.2.1 = r ∧ (0 ≤ q.2.2.1) ∧ (q.2.2.1 < q.2.2.2.1) ∧ (q.2.2.2.1 ≤ (a0.length : Int)) ∧ ((a0.length : Int) + 1 ≤ q.2.2.2.1 + (q.1 : Int)) ∧ (q.2.1.length = a0.length) ∧ (fitL fitS q.2.1)) (fun q => q.1) (a0.length + 1, (a0 : List ByteArray), (n_slices_IndexFunc_string a0 p1 : Int), (n_slices_IndexFunc_string a0 p1 + 1 : Int), 0, 0) ⟨hr, by (try dsimp only); (try simp only [List.length_nil, List.length_cons, List.length_replicate]); first | done | omega | exact Nat.zero_le _, by (try dsimp only); (try simp only [List.length_nil, List.length_cons, List.length_replicate]); first | done | omega | exact Nat.zero_le _, by (try dsimp only); (try simp only [List.length_nil, List.length_cons, List.length_replicate]); first | done | omega | exact Nat.zero_le _, by (try dsimp only); (try simp only [List.length_nil, List.length_cons, List.length_replicate]); first | done | omega | exact Nat.zero_le _, by (try dsimp only); (try simp only [List.length_nil, List.length_cons, List.length_replicate]); first | done | omega | exact Nat.zero_le _, h0⟩ (fun q hq hn1 => ?_)
  obtain ⟨n, l0, i, j, g0, w0⟩ := q
  obtain ⟨hr, hi1x0, hi1x1, hi1x2, hi1x3, hi1x4, hi1x5⟩ := hq
  dsimp only at hr hi1x0 hi1x1 hi1x2 hi1x3 hi1x4 hi1x5
  rcases n with _ | n
  · exfalso; omega
  rw [n_slices_DeleteFunc_stringL1] at hr
  have hB1 : (l0).length ≤ _ := (hi1x5).1
  rcases Bool.eq_false_or_eq_true (decide ((j) < (((l0).length : Int)))) with hb3 | hb3
  · replace hr := bf_t hb3 hr
    have hb3p := dec_t hb3
    obtain ⟨x1, hx1⟩ : ∃ x, (l0)[(j).toNat]? = some x := some_of_lt (by omega)
    replace hr := at_step hx1 hr
    have hfx1 := hi1x5.2 _ (List.mem_of_getElem? hx1)
    rcases Bool.eq_false_or_eq_true (!(p1 x1)) with hb4 | hb4
    · replace hr := bf_t hb4 hr
      have hn5 := not_t hb4
      obtain ⟨x2, hx2⟩ : ∃ x, (l0)[(i).toNat]? = some x := some_of_lt (by omega)
      replace hr := at_step hx2 hr
      have hfx2 := hi1x5.2 _ (List.mem_of_getElem? hx2)
      exact hn1 (n, (l0).set ((i).toNat) x1, i + 1, j + 1, g0, w0) (Nat.lt_succ_self _) ⟨hr, by (try simp only [List.length_append, List.length_cons, List.length_nil, List.length_set]); first | done | omega, by (try simp only [List.length_append, List.length_cons, List.length_nil, List.length_set]); first | done | omega, by (try simp only [List.length_append, List.length_cons, List.length_nil, List.length_set]); first | done | omega, by (try simp only [List.length_append, List.length_cons, List.length_nil, List.length_set]); first | done | omega, by (try simp only [List.length_append, List.length_cons, List.length_nil, List.length_set]); first | done | omega, by first | assumption | exact fitL_set (by assumption) (by first | assumption | trivial)⟩
    replace hr := bf_f hb4 hr
    have hn6 := not_f hb4
    exact hn1 (n, l0, i, j + 1, g0, w0) (Nat.lt_succ_self _) ⟨hr, by (try simp only [List.length_append, List.length_cons, List.length_nil, List.length_set]); first | done | omega, by (try simp only [List.length_append, List.length_cons, List.length_nil, List.length_set]); first | done | omega, by (try simp only [List.length_append, List.length_cons, List.length_nil, List.length_set]); first | done | omega, by (try simp only [List.length_append, List.length_cons, List.length_nil, List.length_set]); first | done | omega, by (try simp only [List.length_append, List.length_cons, List.length_nil, List.length_set]); first | done | omega, by first | assumption | exact fitL_set (by assumption) (by first | assumption | trivial)⟩
  replace hr := bf_f hb3 hr
  have hb3p := dec_f hb3
  have hl7 : (i).toNat < ((l0).map encS).length := by (try simp only [List.length_map, List.length_append, List.length_cons, List.length_nil, List.length_set]); omega
  have hl7u : ((l0).map encS).length ≤ ((l0).map encS).length := by (try simp only [List.length_map, List.length_append, List.length_cons, List.length_nil, List.length_set]); omega
  have hB2 : ((l0).take ((i).toNat)).length ≤ _ := (fitL_take hi1x5).1
  have hl8 : (i).toNat ≤ ((l0).map encS).length := by (try simp only [List.length_map, List.length_append, List.length_cons, List.length_nil, List.length_set]); omega
  subst hr
  exact (fitL_take hi1x5)
def n_impl_Outside_c1 (a0 : ByteArray) (c0 : ByteArray) : Bool := n_spec_Under a0 c0
set_option maxHeartbeats 4000000 in
set_option maxRecDepth 20000 in
theorem tr_n_impl_Outside_c1 (a0 : ByteArray) (c0 : ByteArray) (h0 : fitS a0) (k0 : fitS c0) : Tr Tryz.prog 49 [.ro ⟨false, [dS (a0)]⟩, .ro (one (.pt [dS (c0)]))] [⟨false, [dB ((n_impl_Outside_c1 a0 c0))]⟩] := by
  obtain ⟨r, hr⟩ : ∃ r, n_impl_Outside_c1 a0 c0 = r := ⟨_, rfl⟩
  rw [hr]
  rw [n_impl_Outside_c1] at hr
  refine tr_go tabOk Tryz.func49 rfl rfl rfl rfl rfl (ov := [(0, .t ⟨false, [.d (dS (a0))]⟩), (1, .t ⟨false, [.d (.pt [dS (c0)])]⟩)]) (hv := []) rfl rfl ?_
  refine v_seq ?_
  refine v_reg ?_
  refine sy _ (zas rfl (ec rfl)) rfl rfl ?_
  refine s_end ?_
  refine v_seq ?_
  refine v_reg ?_
  refine sy _ (zmv rfl (e rfl rfl)) rfl rfl ?_
  refine sy (.t ⟨false, [.d (dS (c0))]⟩) (zlp tabOk rfl (e rfl rfl) rfl rfl) rfl rfl ?_
  refine sd (.t ⟨false, [.d (dB (n_spec_Under a0 c0))]⟩) (zcd (.t ⟨false, [.d (dB (n_spec_Under a0 c0))]⟩) rfl (tr2_n_impl_Under a0 c0 h0 k0) (ar (e rfl rfl) (.d .nil) (ar (e rfl rfl) (.d .nil) .nil)) rfl) rfl rfl rfl rfl ?_
  refine sy _ (zas rfl (e rfl rfl)) rfl rfl ?_
  refine s_end ?_
  refine v_ret ?_
  subst hr
  exact post_ret (rv (.tmp (eg rfl rfl)) rfl (.lf .nil) rfl .nil) (.ro (.ro .nil)) rfl
def n_impl_Outside (a0 : List ByteArray) (a1 : ByteArray) : List ByteArray := bindv (n_slices_DeleteFunc_string a0 (fun x0 => n_impl_Outside_c1 x0 a1)) (fun v1 => v1)
set_option maxHeartbeats 4000000 in
set_option maxRecDepth 20000 in
theorem tr_n_impl_Outside (a0 : List ByteArray) (a1 : ByteArray) (h0 : fitL fitS a0) (h1 : fitS a1) : Tr Tryz.prog 29 [.ro ⟨false, [.sl 1 (a0.map encS)]⟩, .ro ⟨false, [dS (a1)]⟩] [⟨false, [.sl 1 (((n_impl_Outside a0 a1)).map encS)]⟩] := by
  obtain ⟨r, hr⟩ : ∃ r, n_impl_Outside a0 a1 = r := ⟨_, rfl⟩
  rw [hr]
  rw [n_impl_Outside] at hr
  refine tr_go tabOk Tryz.func29 rfl rfl rfl rfl rfl (ov := [(0, .t ⟨false, [.d (.sl 1 (a0.map encS))]⟩), (1, .t ⟨false, [.d (dS (a1))]⟩)]) (hv := []) rfl rfl ?_
  refine v_seq ?_
  refine v_reg ?_
  refine sr 0 (.t ⟨false, [.vp 0 0]⟩) (.var [.d (dS (a1))]) (zbx rfl (e rfl rfl) rfl rfl rfl) rfl rfl ?_
  refine sy _ (zas rfl (en 1)) rfl rfl ?_
  refine s_end ?_
  refine v_seq ?_
  refine v_reg ?_
  refine sy _ (zmv rfl (e rfl rfl)) rfl rfl ?_
  refine sd (.t ⟨false, [.sr 1 1 0 ((a0.map encS).length) ((a0.map encS).length)]⟩) (zcall 1 (.t ⟨false, [.sr 1 1 0 ((a0.map encS).length) ((a0.map encS).length)]⟩) [(1, .row 1 (a0.map encS) true 1 0)] rfl (tr_clone_encS a0 (Nat.le_trans h0.1 (by decide))) (ar (e rfl rfl) (.d .nil) .nil) rfl rfl rfl) rfl rfl rfl rfl ?_
  refine sy (.t ⟨false, [.cl 49 [0]]⟩) (zmf rfl (.cons (e rfl rfl) .nil)) rfl rfl ?_
  obtain ⟨v1, ev1⟩ : ∃ v : List ByteArray, v = n_slices_DeleteFunc_string a0 (fun x0 => n_impl_Outside_c1 x0 a1) := ⟨_, rfl⟩
  replace hr := bv_step ev1 hr
  have hfv1 : fitL fitS v1 := by rw [ev1]; exact (fitx_n_slices_DeleteFunc_string a0 (fun x0 => n_impl_Outside_c1 x0 a1) h0)
  refine sko (.t ⟨false, [.sr 2 1 0 ((v1.map encS).length) ((v1.map encS).length)]⟩) (zcallO 2 (.t ⟨false, [.sr 2 1 0 ((v1.map encS).length) ((v1.map encS).length)]⟩) [(2, .row 1 (v1.map encS) true 1 0)] rfl (by rw [ev1]; exact (tr_n_slices_DeleteFunc_string a0 49 [.pt [dS (a1)]] (fun x0 => n_impl_Outside_c1 x0 a1) h0 (fun x0 k0 => tr_n_impl_Outside_c1 x0 a1 k0 h1)) : Tr Tryz.prog 47 _ [⟨false, [.sl 1 (v1.map encS)]⟩]) (aoo (e rfl rfl) (.sr rfl le_all take_all .nil) (aor (e rfl rfl) (.cl (.vp rfl (.d .nil) .nil) .nil) .nil)) rfl rfl (freeB_of rfl) rfl rfl) rfl rfl rfl ?_
  refine sy _ (zas rfl (e rfl rfl)) rfl rfl ?_
  refine s_end ?_
  refine v_ret ?_
  subst hr
  exact post_ret (rv (.tmp (eg rfl rfl)) rfl (.sr rfl le_all take_all .nil) rfl .nil) (.ro (.ro .nil)) rfl
set_option maxHeartbeats 4000000 in
theorem fitx_n_impl_Outside (a0 : List ByteArray) (a1 : ByteArray) (h0 : fitL fitS a0) (h1 : fitS a1) : fitL fitS (n_impl_Outside a0 a1) := by
  obtain ⟨r, hr⟩ : ∃ r, n_impl_Outside a0 a1 = r := ⟨_, rfl⟩
  rw [hr]
  rw [n_impl_Outside] at hr
  obtain ⟨v1, ev1⟩ : ∃ v : List ByteArray, v = n_slices_DeleteFunc_string a0 (fun x0 => n_impl_Outside_c1 x0 a1) := ⟨_, rfl⟩
  replace hr := bv_step ev1 hr
  have hfv1 : fitL fitS v1 := by rw [ev1]; exact (fitx_n_slices_DeleteFunc_string a0 (fun x0 => n_impl_Outside_c1 x0 a1) h0)
  subst hr
  exact hfv1
def n_spec_OutsideL1 (a0 : List ByteArray) (a1 : ByteArray) : Nat → (List ByteArray) → Nat → (List ByteArray)
  | 0, _, _ => default
  | n + 1, l0, i => cond (decide (((i : Int)) < (((a0).length : Int)))) (atL (a0) (i) (fun x1 => cond (!(n_spec_Under x1 a1)) (n_spec_OutsideL1 a0 a1 n (l0 ++ ([x1] : List ByteArray)) (i + 1)) (n_spec_OutsideL1 a0 a1 n l0 (i + 1)))) (l0)
def n_spec_Outside (a0 : List ByteArray) (a1 : ByteArray) : List ByteArray := n_spec_OutsideL1 a0 a1 ((a0).length + 1) (([] : List ByteArray)) 0
set_option maxHeartbeats 4000000 in
set_option maxRecDepth 20000 in
theorem tr_n_spec_Outside (a0 : List ByteArray) (a1 : ByteArray) (h0 : fitL fitS a0) (h1 : fitS a1) : Tr Tryz.prog 22 [.ro ⟨false, [.sl 1 (a0.map encS)]⟩, .ro ⟨false, [dS (a1)]⟩] [⟨false, [.sl 1 (((n_spec_Outside a0 a1)).map encS)]⟩] := by
  obtain ⟨r, hr⟩ : ∃ r, n_spec_Outside a0 a1 = r := ⟨_, rfl⟩
  rw [hr]
  rw [n_spec_Outside] at hr
  refine tr_go tabOk Tryz.func22 rfl rfl rfl rfl rfl (ov := [(0, .t ⟨false, [.d (.sl 1 (a0.map encS))]⟩), (1, .t ⟨false, [.d (dS (a1))]⟩)]) (hv := []) rfl rfl ?_
  refine v_seq ?_
  refine v_reg ?_
  refine sy _ (zas rfl (en 1)) rfl rfl ?_
  refine s_end ?_
  refine v_seq ?_
  refine v_reg ?_
  refine sbk 0 (.t ⟨false, [.sr 0 1 0 ((([] : List ByteArray).map encS).length) ((([] : List ByteArray).map encS).length)]⟩) (.row 1 (([] : List ByteArray).map encS) true 1 0) (zbu tabOk rfl rfl rfl rfl .nil rfl rfl) rfl rfl ?_
  refine sy _ (zas rfl (e rfl rfl)) rfl rfl ?_
  refine s_end ?_
  refine v_seq ?_
  refine v_seq ?_
  refine v_reg ?_
  refine sy _ (zas rfl (ec rfl)) rfl rfl ?_
  refine s_end ?_
  refine v_block ?_
  refine v_lp (fun (q : Nat × List ByteArray × Nat × Nat × Nat) => [(0, .t ⟨false, [.d (.sl 1 (a0.map encS))]⟩), (1, .t ⟨false, [.d (dS (a1))]⟩), (5, .t ⟨false, [.sr 0 q.2.2.2.1 0 (((q.2.1).map encS).length) (((q.2.1).map encS).length)]⟩), (6, .t ⟨false, [.d (dI (q.2.2.1 : Int))]⟩)]) (fun q => [(0, .row 1 ((q.2.1).map encS) true q.2.2.2.1 q.2.2.2.2)]) (fun q => n_spec_OutsideL1 a0 a1 q.1 q.2.1 q.2.2.1 = r ∧ (q.2.2.1 ≤ (a0).length) ∧ (q.2.2.1 + q.1 = (a0).length + 1) ∧ (q.2.1.length ≤ q.2.2.1) ∧ (fitL fitS q.2.1)) (fun q => q.1) ((a0).length + 1, (([] : List ByteArray) : List ByteArray), (0 : Nat), 1, 0) ⟨hr, by (try dsimp only); (try simp only [List.length_nil, List.length_cons, List.length_replicate]); first | done | omega | exact Nat.zero_le _, by (try dsimp only); (try simp only [List.length_nil, List.length_cons, List.length_replicate]); first | done | omega | exact Nat.zero_le _, by (try dsimp only); (try simp only [List.length_nil, List.length_cons, List.length_replicate]); first | done | omega | exact Nat.zero_le _, fitL_nil⟩ ⟨rfl, rfl, rfl, rfl, trivial⟩ ⟨rfl, trivial⟩ rfl (fun q hq => ?_)
  obtain ⟨n, l0, i, g0, w0⟩ := q
  obtain ⟨hr, hi1x0, hi1x1, hi1x2, hi1x3⟩ := hq
  dsimp only at hr hi1x0 hi1x1 hi1x2 hi1x3
  show VWp _ _ _ (mk [(0, .t ⟨false, [.d (.sl 1 (a0.map encS))]⟩), (1, .t ⟨false, [.d (dS (a1))]⟩), (5, .t ⟨false, [.sr 0 g0 0 (((l0).map encS).length) (((l0).map encS).length)]⟩), (6, .t ⟨false, [.d (dI (i : Int))]⟩)] _ [(0, .row 1 ((l0).map encS) true g0 w0)])
  rcases n with _ | n
  · exfalso; omega
  rw [n_spec_OutsideL1] at hr
  refine v_seq ?_
  refine v_seq ?_
  refine v_reg ?_
  refine sy _ (zmv rfl (e rfl rfl)) rfl rfl ?_
  refine sy _ (zmv rfl (e rfl rfl)) rfl rfl ?_
  have hB1 := (h0).1
  refine sy (.t ⟨false, [.d (dI ((a0).length : Int))]⟩) (zlm tabOk rfl rfl (e rfl rfl) .d) rfl rfl ?_
  refine sy (.t ⟨false, [.d (dB (decide (((i : Int)) < (((a0).length : Int)))))]⟩) (y_bin rfl (e rfl rfl) (e rfl rfl) (fun _ => b_lss) rfl) rfl rfl ?_
  refine s_end ?_
  refine v_cond (e rfl rfl) (fun hb1 => ?_) fun hb1 => ?_
  · replace hr := bf_t hb1 hr
    have hb1p := dec_t hb1
    refine v_skip ?_
    refine v_seq ?_
    refine v_block ?_
    refine v_seq ?_
    refine v_reg ?_
    refine sy _ (zmv rfl (e rfl rfl)) rfl rfl ?_
    refine sy _ (zmv rfl (e rfl rfl)) rfl rfl ?_
    obtain ⟨x1, hx1⟩ : ∃ x, (a0)[i]? = some x := some_of_lt (by omega)
    replace hr := at_step hx1 hr
    have hfx1 := h0.2 _ (List.mem_of_getElem? hx1)
    refine sy (.t ⟨false, [.fe 1 (a0.map encS) i 0]⟩) (zix tabOk rfl rfl rfl (e rfl rfl) (e rfl rfl) (ltm_of_some hx1)) rfl rfl ?_
    refine sy (.t ⟨false, [.d (dS (x1))]⟩) (zle tabOk rfl (e rfl rfl) (getm hx1) rfl rfl) rfl rfl ?_
    refine sy _ (zmv rfl (e rfl rfl)) rfl rfl ?_
    refine sd (.t ⟨false, [.d (dB (n_spec_Under x1 a1))]⟩) (zcall 3 (.t ⟨false, [.d (dB (n_spec_Under x1 a1))]⟩) [] rfl (tr_n_spec_Under x1 a1 hfx1 h1) (ar (e rfl rfl) (.d .nil) (ar (e rfl rfl) (.d .nil) .nil)) rfl rfl rfl) rfl rfl rfl rfl ?_
    refine sy (.t ⟨false, [.d (dB (!(n_spec_Under x1 a1)))]⟩) (y_un rfl (e rfl rfl) (fun _ => u_not) rfl) rfl rfl ?_
    refine s_end ?_
    refine v_cond (e rfl rfl) (fun hb2 => ?_) fun hb2 => ?_
    · replace hr := bf_t hb2 hr
      have hn3 := not_t hb2
      refine v_reg ?_
      refine sy _ (zmv rfl (e rfl rfl)) rfl rfl ?_
      refine sy _ (zmv rfl (e rfl rfl)) rfl rfl ?_
      refine sy _ (zmv rfl (e rfl rfl)) rfl rfl ?_
      refine sy (.t ⟨false, [.fe 1 (a0.map encS) i 0]⟩) (zix tabOk rfl rfl rfl (e rfl rfl) (e rfl rfl) (ltm_of_some hx1)) rfl rfl ?_
      refine sy (.t ⟨false, [.d (dS (x1))]⟩) (zle tabOk rfl (e rfl rfl) (getm hx1) rfl rfl) rfl rfl ?_
      refine sbk 3 (.t ⟨false, [.sr 3 1 0 ((([x1] : List ByteArray).map encS).length) ((([x1] : List ByteArray).map encS).length)]⟩) (.row 1 (([x1] : List ByteArray).map encS) true 1 0) (zbu tabOk rfl rfl rfl rfl (pd0 (e rfl rfl) rfl (.lf .nil) rfl .nil) rfl rfl) rfl rfl ?_
      have hB2 := (hi1x3).1
      refine sa 0 (.t ⟨false, [.sr 0 (g0 + 1) 0 (((l0 ++ ([x1] : List ByteArray)).map encS).length) (((l0 ++ ([x1] : List ByteArray)).map encS).length)]⟩) (.row 1 ((l0 ++ ([x1] : List ByteArray)).map encS) true (g0 + 1) (w0 + 1)) (zap tabOk rfl rfl rfl rfl (e rfl rfl) rfl rfl (e rfl rfl) (.flat rfl le_all take_all (flat_S _)) (ap_big (by simp only [List.length_map, List.length_cons, List.length_nil]; omega) rfl) map_app len_app) rfl rfl ?_
      refine sy _ (zas rfl (e rfl rfl)) rfl rfl ?_
      refine s_end ?_
      refine blk_norm ?_
      refine v_reg ?_
      refine sy _ (zmv rfl (e rfl rfl)) rfl rfl ?_
      refine sy (.t ⟨false, [.d (dI (i + 1 : Int))]⟩) (y_bin rfl (e rfl rfl) (ec rfl) (fun _ => b_addn (by omega) (by omega)) rfl) rfl rfl ?_
      refine sy _ (zas rfl (e rfl rfl)) rfl rfl ?_
      refine s_end ?_
      exact lp_next (n, l0 ++ ([x1] : List ByteArray), i + 1, g0 + 1, w0 + 1) ⟨hr, by (try simp only [List.length_append, List.length_cons, List.length_nil, List.length_set]); first | done | omega, by (try simp only [List.length_append, List.length_cons, List.length_nil, List.length_set]); first | done | omega, by (try simp only [List.length_append, List.length_cons, List.length_nil, List.length_set]); first | done | omega, fitL_snoc hi1x3 (by omega) hfx1⟩ (Nat.lt_succ_self _) ⟨rfl, rfl, rfl, rfl, trivial⟩ ⟨rfl, trivial⟩ rfl
    replace hr := bf_f hb2 hr
    have hn4 := not_f hb2
    refine v_skip ?_
    refine blk_norm ?_
    refine v_reg ?_
    refine sy _ (zmv rfl (e rfl rfl)) rfl rfl ?_
    refine sy (.t ⟨false, [.d (dI (i + 1 : Int))]⟩) (y_bin rfl (e rfl rfl) (ec rfl) (fun _ => b_addn (by omega) (by omega)) rfl) rfl rfl ?_
    refine sy _ (zas rfl (e rfl rfl)) rfl rfl ?_
    refine s_end ?_
    exact lp_next (n, l0, i + 1, g0, w0) ⟨hr, by (try simp only [List.length_append, List.length_cons, List.length_nil, List.length_set]); first | done | omega, by (try simp only [List.length_append, List.length_cons, List.length_nil, List.length_set]); first | done | omega, by (try simp only [List.length_append, List.length_cons, List.length_nil, List.length_set]); first | done | omega, hi1x3⟩ (Nat.lt_succ_self _) ⟨rfl, rfl, rfl, rfl, trivial⟩ ⟨rfl, trivial⟩ rfl
  replace hr := bf_f hb1 hr
  have hb1p := dec_f hb1
  refine v_exit ?_
  refine then_exit ?_
  refine loop_exit ?_
  refine blk_hit ?_
  refine v_seq ?_
  refine v_reg ?_
  refine sy _ (zmv rfl (e rfl rfl)) rfl rfl ?_
  refine sy _ (zas rfl (e rfl rfl)) rfl rfl ?_
  refine s_end ?_
  refine v_ret ?_
  subst hr
  exact post_ret (rv (.tmp (eg rfl rfl)) rfl (.sr rfl le_all take_all .nil) rfl .nil) (.ro (.ro .nil)) rfl
set_option maxHeartbeats 4000000 in
theorem fitx_n_spec_Outside (a0 : List ByteArray) (a1 : ByteArray) (h0 : fitL fitS a0) (h1 : fitS a1) : fitL fitS (n_spec_Outside a0 a1) := by
  obtain ⟨r, hr⟩ : ∃ r, n_spec_Outside a0 a1 = r := ⟨_, rfl⟩
  rw [hr]
  rw [n_spec_Outside] at hr
  refine fx_lp (fun (q : Nat × List ByteArray × Nat × Nat × Nat) => n_spec_OutsideL1 a0 a1 q.1 q.2.1 q.2.2.1 = r ∧ (q.2.2.1 ≤ (a0).length) ∧ (q.2.2.1 + q.1 = (a0).length + 1) ∧ (q.2.1.length ≤ q.2.2.1) ∧ (fitL fitS q.2.1)) (fun q => q.1) ((a0).length + 1, (([] : List ByteArray) : List ByteArray), (0 : Nat), 1, 0) ⟨hr, by (try dsimp only); (try simp only [List.length_nil, List.length_cons, List.length_replicate]); first | done | omega | exact Nat.zero_le _, by (try dsimp only); (try simp only [List.length_nil, List.length_cons, List.length_replicate]); first | done | omega | exact Nat.zero_le _, by (try dsimp only); (try simp only [List.length_nil, List.length_cons, List.length_replicate]); first | done | omega | exact Nat.zero_le _, fitL_nil⟩ (fun q hq hn1 => ?_)
  obtain ⟨n, l0, i, g0, w0⟩ := q
  obtain ⟨hr, hi1x0, hi1x1, hi1x2, hi1x3⟩ := hq
  dsimp only at hr hi1x0 hi1x1 hi1x2 hi1x3
  rcases n with _ | n
  · exfalso; omega
  rw [n_spec_OutsideL1] at hr
  have hB1 : (a0).length ≤ _ := (h0).1
  rcases Bool.eq_false_or_eq_true (decide (((i : Int)) < (((a0).length : Int)))) with hb1 | hb1
  · replace hr := bf_t hb1 hr
    have hb1p := dec_t hb1
    obtain ⟨x1, hx1⟩ : ∃ x, (a0)[i]? = some x := some_of_lt (by omega)
    replace hr := at_step hx1 hr
    have hfx1 := h0.2 _ (List.mem_of_getElem? hx1)
    rcases Bool.eq_false_or_eq_true (!(n_spec_Under x1 a1)) with hb2 | hb2
    · replace hr := bf_t hb2 hr
      have hn3 := not_t hb2
      have hB2 : (l0).length ≤ _ := (hi1x3).1
      exact hn1 (n, l0 ++ ([x1] : List ByteArray), i + 1, g0 + 1, w0 + 1) (Nat.lt_succ_self _) ⟨hr, by (try simp only [List.length_append, List.length_cons, List.length_nil, List.length_set]); first | done | omega, by (try simp only [List.length_append, List.length_cons, List.length_nil, List.length_set]); first | done | omega, by (try simp only [List.length_append, List.length_cons, List.length_nil, List.length_set]); first | done | omega, fitL_snoc hi1x3 (by omega) hfx1⟩
    replace hr := bf_f hb2 hr
    have hn4 := not_f hb2
    exact hn1 (n, l0, i + 1, g0, w0) (Nat.lt_succ_self _) ⟨hr, by (try simp only [List.length_append, List.length_cons, List.length_nil, List.length_set]); first | done | omega, by (try simp only [List.length_append, List.length_cons, List.length_nil, List.length_set]); first | done | omega, by (try simp only [List.length_append, List.length_cons, List.length_nil, List.length_set]); first | done | omega, hi1x3⟩
  replace hr := bf_f hb1 hr
  have hb1p := dec_f hb1
  subst hr
  exact hi1x3
theorem loop_any {α : Type} {p : α → Bool} {xs : List α} {f : Nat → Nat → Bool} (hs : ∀ n i, f (n + 1) i = cond (decide ((i : Int) < (xs.length : Int))) (atL xs i fun x => cond (p x) true (f n (i + 1))) false) :
    ∀ (n i : Nat), i ≤ xs.length → i + n = xs.length + 1 → f n i = (xs.drop i).any p
  | 0, i, h1, h2 => by omega
  | n + 1, i, h1, h2 => by
    rw [hs]
    rcases Nat.lt_or_ge i xs.length with h | h
    · have e : (decide ((i : Int) < (xs.length : Int))) = true := by simp; omega
      rw [e, cond_true, atL_lt h, List.drop_eq_getElem_cons h, List.any_cons, ← loop_any hs n (i + 1) (by omega) (by omega)]
      cases p xs[i] <;> simp
    · have e : (decide ((i : Int) < (xs.length : Int))) = false := by simp; omega
      rw [e, cond_false, List.drop_eq_nil_of_le h]; simp
theorem dec_comm {α : Type} [DecidableEq α] (a b : α) : decide (a = b) = decide (b = a) := by
  by_cases h : a = b
  · subst h; rfl
  · rw [decide_eq_false h, decide_eq_false fun e => h e.symm]
theorem has_string (l : List ByteArray) (x : ByteArray) : n_slices_Contains_string l x = n_spec_l9Has l x := by
  have h1 := loop_idx (p := fun y => decide (x = y)) (xs := l) (f := n_slices_Index_stringL1 l x) (fun n i => rfl) (l.length + 1) 0 (Nat.zero_le _) (Nat.zero_add _)
  have h2 := loop_any (p := fun y => decide (y = x)) (xs := l) (f := n_spec_l9HasL1 l x) (fun n i => rfl) (l.length + 1) 0 (Nat.zero_le _) (Nat.zero_add _)
  have e : (fun y => decide (x = y)) = fun y : ByteArray => decide (y = x) := by funext y; exact dec_comm x y
  rw [e] at h1
  exact h1.trans h2.symm
theorem has_int (l : List Int) (x : Int) : n_slices_Contains_int l x = n_spec_l9HasInt l x := by
  have h1 := loop_idx (p := fun y => decide (x = y)) (xs := l) (f := n_slices_Index_intL1 l x) (fun n i => rfl) (l.length + 1) 0 (Nat.zero_le _) (Nat.zero_add _)
  have h2 := loop_any (p := fun y => decide (y = x)) (xs := l) (f := n_spec_l9HasIntL1 l x) (fun n i => rfl) (l.length + 1) 0 (Nat.zero_le _) (Nat.zero_add _)
  have e : (fun y => decide (x = y)) = fun y : Int => decide (y = x) := by funext y; exact dec_comm x y
  rw [e] at h1
  exact h1.trans h2.symm
theorem law_Hosts (a : List Record) : n_impl_Hosts a = n_spec_Hosts a := by
  have key : ∀ n l i, n_impl_HostsL1 a n l i = n_spec_HostsL1 a n l i := by
    intro n
    induction n with
    | zero => intro l i; rfl
    | succ n ih => intro l i; simp only [n_impl_HostsL1, n_spec_HostsL1, ih, has_string]
  exact key _ _ _
theorem law_Addrs (a : List Record) (s : ByteArray) : n_impl_Addrs a s = n_spec_Addrs a s := by
  have key : ∀ n l i, n_impl_AddrsL1 a s n l i = n_spec_AddrsL1 a s n l i := by
    intro n
    induction n with
    | zero => intro l i; rfl
    | succ n ih => intro l i; simp only [n_impl_AddrsL1, n_spec_AddrsL1, ih, has_int]
  exact key _ _ _
theorem law_Uniq (a : List Int) : n_impl_Uniq a = n_spec_Uniq a := by
  have key : ∀ n l i, n_impl_UniqL1 a n l i = n_spec_UniqL1 a n l i := by
    intro n
    induction n with
    | zero => intro l i; rfl
    | succ n ih => intro l i; simp only [n_impl_UniqL1, n_spec_UniqL1, ih, has_int]
  exact key _ _ _
theorem del_string (xs : List ByteArray) (p : ByteArray → Bool) : n_slices_DeleteFunc_string xs p = xs.filter fun x => !(p x) := by
  have key : ∀ (n : Nat) (l : List ByteArray) (i j : Nat), i ≤ j → j ≤ xs.length → j + n = xs.length + 1 → l.length = xs.length → l.take i = (xs.take j).filter (fun x => !(p x)) → l.drop j = xs.drop j →
      n_slices_DeleteFunc_stringL1 p n l (i : Int) (j : Int) = xs.filter fun x => !(p x) := by
    intro n
    induction n with
    | zero => intro l i j h1 h2 h3; omega
    | succ n ih =>
      intro l i j h1 h2 h3 hl ht hd
      rw [n_slices_DeleteFunc_stringL1]
      rcases Nat.lt_or_ge j xs.length with h | h
      · have e : (decide ((j : Int) < (l.length : Int))) = true := by simp; omega
        have hx : l[j]'(by omega) = xs[j] := by
          have h5 := congrArg (fun z => z[0]?) hd
          simp only [List.getElem?_drop, Nat.add_zero] at h5
          rw [List.getElem?_eq_getElem (by omega), List.getElem?_eq_getElem h] at h5
          exact Option.some.inj h5
        have hnx : (xs.take (j + 1)).filter (fun x => !(p x)) = (xs.take j).filter (fun x => !(p x)) ++ (if (!(p xs[j])) = true then [xs[j]] else []) := by
          rw [List.take_add_one, List.getElem?_eq_getElem h, List.filter_append]
          simp [List.filter_cons]
        rw [e, cond_true, Int.toNat_natCast, atL_lt (by omega), hx]
        cases hp : p xs[j] with
        | false =>
          simp only [Bool.not_false, cond_true, Int.toNat_natCast]
          rw [atL_lt (by omega)]
          refine ih (l.set i xs[j]) (i + 1) (j + 1) (by omega) (by omega) (by omega) (by rw [List.length_set]; exact hl) ?_ ?_
          · rw [hnx, hp, ← ht]
            simp only [Bool.not_false, if_true]
            rw [List.take_add_one, List.take_set_of_le (Nat.le_refl _)]
            simp [show i < l.length by omega]
          · rw [List.drop_set_of_lt (by omega)]
            have := congrArg (List.drop 1) hd
            rwa [List.drop_drop, List.drop_drop] at this
        | true =>
          simp only [Bool.not_true, cond_false]
          refine ih l i (j + 1) (by omega) (by omega) (by omega) hl ?_ ?_
          · rw [hnx, hp, ht]; simp
          · have := congrArg (List.drop 1) hd
            rwa [List.drop_drop, List.drop_drop] at this
      · have e : (decide ((j : Int) < (l.length : Int))) = false := by simp; omega
        rw [e, cond_false, Int.toNat_natCast, ht, List.take_of_length_le h]
  have hidx : ∀ (n i : Nat), i ≤ xs.length → i + n = xs.length + 1 → (∀ x ∈ xs.take i, p x = false) → (n_slices_IndexFunc_stringL1 xs p n i = -1 ∧ ∀ x ∈ xs, p x = false) ∨ ∃ k, k < xs.length ∧ n_slices_IndexFunc_stringL1 xs p n i = (k : Int) ∧ (∀ x ∈ xs.take k, p x = false) ∧ ∃ h, p (xs[k]'h) = true := by
    intro n
    induction n with
    | zero => intro i h1 h2; omega
    | succ n ih =>
      intro i h1 h2 h3
      rw [n_slices_IndexFunc_stringL1]
      rcases Nat.lt_or_ge i xs.length with h | h
      · have e : (decide ((i : Int) < (xs.length : Int))) = true := by simp; omega
        rw [e, cond_true, atL_lt h]
        cases hp : p xs[i] with
        | true => exact .inr ⟨i, h, rfl, h3, h, hp⟩
        | false =>
          refine ih (i + 1) (by omega) (by omega) fun x hx => ?_
          rw [List.take_add_one, List.getElem?_eq_getElem h] at hx
          simp only [Option.toList_some, List.mem_append, List.mem_singleton] at hx
          rcases hx with hx | rfl
          · exact h3 x hx
          · exact hp
      · have e : (decide ((i : Int) < (xs.length : Int))) = false := by simp; omega
        rw [e, cond_false]
        exact .inl ⟨rfl, fun x hx => h3 x (by rw [List.take_of_length_le h]; exact hx)⟩
  unfold n_slices_DeleteFunc_string n_slices_IndexFunc_string
  rcases hidx (xs.length + 1) 0 (Nat.zero_le _) (by omega) (by simp) with ⟨h1, h2⟩ | ⟨k, hk, h1, h2, h3, h4⟩
  · rw [h1]
    simp only [decide_true, cond_true]
    exact (List.filter_eq_self.2 fun x hx => by rw [h2 x hx]; rfl).symm
  · rw [h1]
    have e : decide ((k : Int) = -1) = false := decide_eq_false (by omega)
    rw [e, cond_false]
    have hf : (xs.take k).filter (fun x => !(p x)) = xs.take k := List.filter_eq_self.2 fun x hx => by rw [h2 x hx]; rfl
    have hf1 : (xs.take (k + 1)).filter (fun x => !(p x)) = xs.take k := by
      rw [List.take_add_one, List.getElem?_eq_getElem hk, List.filter_append, hf]
      simp [List.filter_cons, h4]
    have := key (xs.length + 1) xs k (k + 1)
    -- one round more than is needed: the loop's fuel
    have gen : ∀ (n m : Nat) (l : List ByteArray) (i j : Nat), j + n = xs.length + 1 → j ≤ xs.length → i ≤ j → l.length = xs.length → n_slices_DeleteFunc_stringL1 p (n + m) l (i : Int) (j : Int) = n_slices_DeleteFunc_stringL1 p n l (i : Int) (j : Int) := by
      intro n
      induction n with
      | zero => intro m l i j h5 h6; omega
      | succ n ih =>
        intro m l i j h5 h6 h7 hl
        rw [show n + 1 + m = (n + m) + 1 by omega, n_slices_DeleteFunc_stringL1, n_slices_DeleteFunc_stringL1]
        rcases Nat.lt_or_ge j xs.length with h | h
        · rw [Int.toNat_natCast, Int.toNat_natCast, atL_lt (by omega), atL_lt (by omega), atL_lt (by omega), atL_lt (by omega)]
          have g1 := ih m (l.set i (l[j]'(by omega))) (i + 1) (j + 1) (by omega) (by omega) (by omega) (by rw [List.length_set]; exact hl)
          have g2 := ih m l i (j + 1) (by omega) (by omega) (by omega) hl
          have c1 : ((i : Int) + 1) = ((i + 1 : Nat) : Int) := by omega
          have c2 : ((j : Int) + 1) = ((j + 1 : Nat) : Int) := by omega
          rw [c1, c2, g1, g2]
        · have e : (decide ((j : Int) < (l.length : Int))) = false := by simp; omega
          rw [e]; rfl
    have c2 : ((k : Int) + 1) = ((k + 1 : Nat) : Int) := by omega
    rw [c2, show xs.length + 1 = (xs.length - k) + (k + 1) by omega, gen _ _ _ _ _ (by omega) (by omega) (by omega) rfl]
    exact key _ _ _ _ (by omega) (by omega) (by omega) rfl hf1.symm rfl
theorem gather_filter {α : Type} {q : α → Bool} {xs : List α} {f : Nat → List α → Nat → List α} (hs : ∀ n l i, f (n + 1) l i = cond (decide ((i : Int) < (xs.length : Int))) (atL xs i fun x => cond (q x) (f n (l ++ [x]) (i + 1)) (f n l (i + 1))) l) :
    ∀ (n : Nat) (l : List α) (i : Nat), i ≤ xs.length → i + n = xs.length + 1 → f n l i = l ++ (xs.drop i).filter q
  | 0, l, i, h1, h2 => by omega
  | n + 1, l, i, h1, h2 => by
    rw [hs]
    rcases Nat.lt_or_ge i xs.length with h | h
    · have e : (decide ((i : Int) < (xs.length : Int))) = true := by simp; omega
      rw [e, cond_true, atL_lt h, List.drop_eq_getElem_cons h, List.filter_cons, gather_filter hs n _ (i + 1) (by omega) (by omega), gather_filter hs n _ (i + 1) (by omega) (by omega)]
      cases q xs[i] <;> simp
    · have e : (decide ((i : Int) < (xs.length : Int))) = false := by simp; omega
      rw [e, cond_false, List.drop_eq_nil_of_le h]; simp
theorem spec_Outside_eq (l : List ByteArray) (s : ByteArray) : n_spec_Outside l s = l.filter fun x => !(n_spec_Under x s) := by
  have := gather_filter (q := fun x => !(n_spec_Under x s)) (xs := l) (f := n_spec_OutsideL1 l s) (fun n l i => rfl) (l.length + 1) [] 0 (Nat.zero_le _) (Nat.zero_add _)
  rw [List.drop_zero, List.nil_append] at this
  exact this
theorem law_Outside (l : List ByteArray) (s : ByteArray) : n_impl_Outside l s = n_spec_Outside l s := by
  rw [spec_Outside_eq]
  simp only [n_impl_Outside, bindv, del_string, n_impl_Outside_c1]
end Go.Proofs.YtglilpigoocgeaaGreatDoor.V
