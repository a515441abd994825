/-
  Types, records, questions.
-/
import Derived.Test.YtkcpbahcnlhmjaaDoorN
import Derived.Test.YtkcpbahcnlhmjaaDoorFE
import Derived.Test.YtkcpbahcnlhmjaaDoorFD
import Derived.Test.YtkcpbahcnlhmjaaDoorQ
import Derived.Test.YtkcpbahcnlhmjaaDoorVE
import Derived.Test.YtkcpbahcnlhmjaaDoorFA
namespace Go.Proofs.YtkcpbahcnlhmjaaDoor.V
open Go
set_option linter.unusedVariables false
set_option linter.unusedSimpArgs false
def n_spec_TypeOk (a0 : Int) : Bool := cond (decide ((a0) = (1))) (true) (cond (decide ((a0) = (2))) (true) (cond (decide ((a0) = (5))) (true) (cond (decide ((a0) = (6))) (true) (decide ((a0) = (16))))))
set_option maxHeartbeats 4000000 in
set_option maxRecDepth 20000 in
theorem tr_n_spec_TypeOk (a0 : Int) : Tr Tryd.prog 82 [.ro ⟨false, [dI (a0)]⟩] [⟨false, [dB ((n_spec_TypeOk a0))]⟩] := by
  obtain ⟨r, hr⟩ : ∃ r, n_spec_TypeOk a0 = r := ⟨_, rfl⟩
  rw [hr]
  rw [n_spec_TypeOk] at hr
  refine tr_go tabOk Tryd.func82 rfl rfl rfl rfl rfl (ov := [(0, .t ⟨false, [.d (dI (a0))]⟩)]) (hv := []) rfl rfl ?_
  refine v_seq ?_
  refine v_reg ?_
  refine sy _ (zas rfl (ec rfl)) rfl rfl ?_
  refine s_end ?_
  refine v_seq ?_
  refine v_reg ?_
  refine sy _ (zmv rfl (e rfl rfl)) rfl rfl ?_
  refine sy (.t ⟨false, [.d (dB (decide ((a0) = (1))))]⟩) (y_bin rfl (e rfl rfl) (ec rfl) (fun _ => b_eql) rfl) rfl rfl ?_
  refine sy _ (zmv rfl (e rfl rfl)) rfl rfl ?_
  rcases Bool.eq_false_or_eq_true (decide ((a0) = (1))) with hg1 | hg1
  · replace hr := bf_t hg1 hr
    have hg1p := dec_t hg1
    refine gs rfl rfl rfl (eg rfl rfl) hg1 rfl ?_
    refine gs rfl rfl rfl (eg rfl rfl) hg1 rfl ?_
    refine sy (.t ⟨false, [.d (dB (true))]⟩) (zpt rfl (e rfl rfl) hg1 (ec rfl)) rfl rfl ?_
    refine sy _ (zmv rfl (e rfl rfl)) rfl rfl ?_
    refine gs rfl rfl rfl (eg rfl rfl) rfl rfl ?_
    refine gs rfl rfl rfl (eg rfl rfl) rfl rfl ?_
    refine sy (.t ⟨false, [.d (dB (true))]⟩) (zpt rfl (e rfl rfl) rfl (ec rfl)) rfl rfl ?_
    refine sy _ (zmv rfl (e rfl rfl)) rfl rfl ?_
    refine gs rfl rfl rfl (eg rfl rfl) rfl rfl ?_
    refine gs rfl rfl rfl (eg rfl rfl) rfl rfl ?_
    refine sy (.t ⟨false, [.d (dB (true))]⟩) (zpt rfl (e rfl rfl) rfl (ec rfl)) rfl rfl ?_
    refine sy _ (zmv rfl (e rfl rfl)) rfl rfl ?_
    refine gs rfl rfl rfl (eg rfl rfl) rfl rfl ?_
    refine gs rfl rfl rfl (eg rfl rfl) rfl rfl ?_
    refine sy (.t ⟨false, [.d (dB (true))]⟩) (zpt rfl (e rfl rfl) rfl (ec rfl)) rfl rfl ?_
    refine sy _ (zas rfl (e rfl rfl)) rfl rfl ?_
    refine s_end ?_
    refine v_ret ?_
    subst hr
    exact post_ret (rv (.tmp (eg rfl rfl)) rfl (.lf .nil) rfl .nil) (.ro .nil) rfl
  replace hr := bf_f hg1 hr
  have hg1p := dec_f hg1
  refine gr rfl rfl rfl (eg rfl rfl) hg1 ?_
  refine sy _ (zmv rfl (e rfl rfl)) rfl rfl ?_
  refine gr rfl rfl rfl (eg rfl rfl) hg1 ?_
  refine sy (.t ⟨false, [.d (dB (decide ((a0) = (2))))]⟩) (y_bin rfl (e rfl rfl) (ec rfl) (fun _ => b_eql) rfl) rfl rfl ?_
  refine sy (.t ⟨false, [.d (dB (decide ((a0) = (2))))]⟩) (zpf rfl (e rfl rfl) hg1 (e rfl rfl)) rfl rfl ?_
  refine sy _ (zmv rfl (e rfl rfl)) rfl rfl ?_
  rcases Bool.eq_false_or_eq_true (decide ((a0) = (2))) with hg2 | hg2
  · replace hr := bf_t hg2 hr
    have hg2p := dec_t hg2
    refine gs rfl rfl rfl (eg rfl rfl) hg2 rfl ?_
    refine gs rfl rfl rfl (eg rfl rfl) hg2 rfl ?_
    refine sy (.t ⟨false, [.d (dB (true))]⟩) (zpt rfl (e rfl rfl) hg2 (ec rfl)) rfl rfl ?_
    refine sy _ (zmv rfl (e rfl rfl)) rfl rfl ?_
    refine gs rfl rfl rfl (eg rfl rfl) rfl rfl ?_
    refine gs rfl rfl rfl (eg rfl rfl) rfl rfl ?_
    refine sy (.t ⟨false, [.d (dB (true))]⟩) (zpt rfl (e rfl rfl) rfl (ec rfl)) rfl rfl ?_
    refine sy _ (zmv rfl (e rfl rfl)) rfl rfl ?_
    refine gs rfl rfl rfl (eg rfl rfl) rfl rfl ?_
    refine gs rfl rfl rfl (eg rfl rfl) rfl rfl ?_
    refine sy (.t ⟨false, [.d (dB (true))]⟩) (zpt rfl (e rfl rfl) rfl (ec rfl)) rfl rfl ?_
    refine sy _ (zas rfl (e rfl rfl)) rfl rfl ?_
    refine s_end ?_
    refine v_ret ?_
    subst hr
    exact post_ret (rv (.tmp (eg rfl rfl)) rfl (.lf .nil) rfl .nil) (.ro .nil) rfl
  replace hr := bf_f hg2 hr
  have hg2p := dec_f hg2
  refine gr rfl rfl rfl (eg rfl rfl) hg2 ?_
  refine sy _ (zmv rfl (e rfl rfl)) rfl rfl ?_
  refine gr rfl rfl rfl (eg rfl rfl) hg2 ?_
  refine sy (.t ⟨false, [.d (dB (decide ((a0) = (5))))]⟩) (y_bin rfl (e rfl rfl) (ec rfl) (fun _ => b_eql) rfl) rfl rfl ?_
  refine sy (.t ⟨false, [.d (dB (decide ((a0) = (5))))]⟩) (zpf rfl (e rfl rfl) hg2 (e rfl rfl)) rfl rfl ?_
  refine sy _ (zmv rfl (e rfl rfl)) rfl rfl ?_
  rcases Bool.eq_false_or_eq_true (decide ((a0) = (5))) with hg3 | hg3
  · replace hr := bf_t hg3 hr
    have hg3p := dec_t hg3
    refine gs rfl rfl rfl (eg rfl rfl) hg3 rfl ?_
    refine gs rfl rfl rfl (eg rfl rfl) hg3 rfl ?_
    refine sy (.t ⟨false, [.d (dB (true))]⟩) (zpt rfl (e rfl rfl) hg3 (ec rfl)) rfl rfl ?_
    refine sy _ (zmv rfl (e rfl rfl)) rfl rfl ?_
    refine gs rfl rfl rfl (eg rfl rfl) rfl rfl ?_
    refine gs rfl rfl rfl (eg rfl rfl) rfl rfl ?_
    refine sy (.t ⟨false, [.d (dB (true))]⟩) (zpt rfl (e rfl rfl) rfl (ec rfl)) rfl rfl ?_
    refine sy _ (zas rfl (e rfl rfl)) rfl rfl ?_
    refine s_end ?_
    refine v_ret ?_
    subst hr
    exact post_ret (rv (.tmp (eg rfl rfl)) rfl (.lf .nil) rfl .nil) (.ro .nil) rfl
  replace hr := bf_f hg3 hr
  have hg3p := dec_f hg3
  refine gr rfl rfl rfl (eg rfl rfl) hg3 ?_
  refine sy _ (zmv rfl (e rfl rfl)) rfl rfl ?_
  refine gr rfl rfl rfl (eg rfl rfl) hg3 ?_
  refine sy (.t ⟨false, [.d (dB (decide ((a0) = (6))))]⟩) (y_bin rfl (e rfl rfl) (ec rfl) (fun _ => b_eql) rfl) rfl rfl ?_
  refine sy (.t ⟨false, [.d (dB (decide ((a0) = (6))))]⟩) (zpf rfl (e rfl rfl) hg3 (e rfl rfl)) rfl rfl ?_
  refine sy _ (zmv rfl (e rfl rfl)) rfl rfl ?_
  rcases Bool.eq_false_or_eq_true (decide ((a0) = (6))) with hg4 | hg4
  · replace hr := bf_t hg4 hr
    have hg4p := dec_t hg4
    refine gs rfl rfl rfl (eg rfl rfl) hg4 rfl ?_
    refine gs rfl rfl rfl (eg rfl rfl) hg4 rfl ?_
    refine sy (.t ⟨false, [.d (dB (true))]⟩) (zpt rfl (e rfl rfl) hg4 (ec rfl)) rfl rfl ?_
    refine sy _ (zas rfl (e rfl rfl)) rfl rfl ?_
    refine s_end ?_
    refine v_ret ?_
    subst hr
    exact post_ret (rv (.tmp (eg rfl rfl)) rfl (.lf .nil) rfl .nil) (.ro .nil) rfl
  replace hr := bf_f hg4 hr
  have hg4p := dec_f hg4
  refine gr rfl rfl rfl (eg rfl rfl) hg4 ?_
  refine sy _ (zmv rfl (e rfl rfl)) rfl rfl ?_
  refine gr rfl rfl rfl (eg rfl rfl) hg4 ?_
  refine sy (.t ⟨false, [.d (dB (decide ((a0) = (16))))]⟩) (y_bin rfl (e rfl rfl) (ec rfl) (fun _ => b_eql) rfl) rfl rfl ?_
  refine sy (.t ⟨false, [.d (dB (decide ((a0) = (16))))]⟩) (zpf rfl (e rfl rfl) hg4 (e rfl rfl)) rfl rfl ?_
  refine sy _ (zas rfl (e rfl rfl)) rfl rfl ?_
  refine s_end ?_
  refine v_ret ?_
  subst hr
  exact post_ret (rv (.tmp (eg rfl rfl)) rfl (.lf .nil) rfl .nil) (.ro .nil) rfl
def n_spec_QuestOk (a0 : Quest) : Bool := cond (n_spec_NameOk a0.Name) (n_spec_TypeOk a0.Typ) (false)
set_option maxHeartbeats 4000000 in
set_option maxRecDepth 20000 in
theorem tr_n_spec_QuestOk (a0 : Quest) (h0 : Quest.Fit a0) : Tr Tryd.prog 31 [.ro ⟨true, [dS (a0.Name), dI (a0.Typ)]⟩] [⟨false, [dB ((n_spec_QuestOk a0))]⟩] := by
  obtain ⟨r, hr⟩ : ∃ r, n_spec_QuestOk a0 = r := ⟨_, rfl⟩
  rw [hr]
  rw [n_spec_QuestOk] at hr
  refine tr_go tabOk Tryd.func31 rfl rfl rfl rfl rfl (ov := [(0, .t ⟨true, [.d (dS (a0.Name)), .d (dI (a0.Typ))]⟩)]) (hv := []) rfl rfl ?_
  refine v_seq ?_
  refine v_reg ?_
  refine sr 0 (.t ⟨false, [.vp 0 0]⟩) (.var [.d (dS (a0.Name)), .d (dI (a0.Typ))]) (zbx rfl (e rfl rfl) rfl rfl rfl) rfl rfl ?_
  refine sy _ (zas rfl (ec rfl)) rfl rfl ?_
  refine s_end ?_
  refine v_seq ?_
  refine v_reg ?_
  refine sy (.t ⟨false, [.vp 0 0]⟩) (zfa tabOk rfl rfl rfl (e rfl rfl) rfl rfl) rfl rfl ?_
  refine sy (.t ⟨false, [.d (dS (a0.Name))]⟩) (zlv tabOk rfl (e rfl rfl) rfl rfl rfl) rfl rfl ?_
  refine sd (.t ⟨false, [.d (dB (n_spec_NameOk a0.Name))]⟩) (zcd (.t ⟨false, [.d (dB (n_spec_NameOk a0.Name))]⟩) rfl (tr_n_spec_NameOk a0.Name h0.Name) (ar (e rfl rfl) (.d .nil) .nil) rfl) rfl rfl rfl rfl ?_
  refine sy _ (zmv rfl (e rfl rfl)) rfl rfl ?_
  rcases Bool.eq_false_or_eq_true (n_spec_NameOk a0.Name) with hg1 | hg1
  · replace hr := bf_t hg1 hr
    refine gr rfl rfl rfl (eg rfl rfl) hg1 ?_
    refine sy (.t ⟨false, [.vp 0 1]⟩) (zfa tabOk rfl rfl rfl (e rfl rfl) rfl rfl) rfl rfl ?_
    refine gr rfl rfl rfl (eg rfl rfl) hg1 ?_
    refine sy (.t ⟨false, [.d (dI (a0.Typ))]⟩) (zlv tabOk rfl (e rfl rfl) rfl rfl rfl) rfl rfl ?_
    refine gr rfl rfl rfl (eg rfl rfl) hg1 ?_
    refine sd (.t ⟨false, [.d (dB (n_spec_TypeOk a0.Typ))]⟩) (zcd (.t ⟨false, [.d (dB (n_spec_TypeOk a0.Typ))]⟩) rfl (tr_n_spec_TypeOk a0.Typ) (ar (e rfl rfl) (.d .nil) .nil) rfl) rfl rfl rfl rfl ?_
    refine sy (.t ⟨false, [.d (dB (n_spec_TypeOk a0.Typ))]⟩) (zpt rfl (e rfl rfl) hg1 (e rfl rfl)) rfl rfl ?_
    refine sy _ (zas rfl (e rfl rfl)) rfl rfl ?_
    refine s_end ?_
    refine v_ret ?_
    subst hr
    exact post_ret (rv (.tmp (eg rfl rfl)) rfl (.lf .nil) rfl .nil) (.ro .nil) rfl
  replace hr := bf_f hg1 hr
  refine gs rfl rfl rfl (eg rfl rfl) hg1 rfl ?_
  refine gs rfl rfl rfl (eg rfl rfl) hg1 rfl ?_
  refine gs rfl rfl rfl (eg rfl rfl) hg1 rfl ?_
  refine sy (.t ⟨false, [.d (dB (false))]⟩) (zpf rfl (e rfl rfl) hg1 (ec rfl)) rfl rfl ?_
  refine sy _ (zas rfl (e rfl rfl)) rfl rfl ?_
  refine s_end ?_
  refine v_ret ?_
  subst hr
  exact post_ret (rv (.tmp (eg rfl rfl)) rfl (.lf .nil) rfl .nil) (.ro .nil) rfl
def n_spec_l5TextL1 (a0 : ByteArray) : Nat → Nat → Bool
  | 0, _ => default
  | n + 1, i => cond (decide (((i : Int)) < ((a0.size : Int)))) (cond (!(n_spec_l1In (bt a0 i) 33 126)) (false) (n_spec_l5TextL1 a0 n (i + 1))) (decide (((a0.size : Int)) ≤ (12)))
def n_spec_l5Text (a0 : ByteArray) : Bool := n_spec_l5TextL1 a0 (a0.size + 1) 0
set_option maxHeartbeats 4000000 in
set_option maxRecDepth 20000 in
theorem tr_n_spec_l5Text (a0 : ByteArray) (h0 : fitS a0) : Tr Tryd.prog 119 [.ro ⟨false, [dS (a0)]⟩] [⟨false, [dB ((n_spec_l5Text a0))]⟩] := by
  obtain ⟨r, hr⟩ : ∃ r, n_spec_l5Text a0 = r := ⟨_, rfl⟩
  rw [hr]
  rw [n_spec_l5Text] at hr
  refine tr_go tabOk Tryd.func119 rfl rfl rfl rfl rfl (ov := [(0, .t ⟨false, [.d (dS (a0))]⟩)]) (hv := []) rfl rfl ?_
  refine v_seq ?_
  refine v_reg ?_
  refine sy _ (zas rfl (ec rfl)) rfl rfl ?_
  refine s_end ?_
  refine v_seq ?_
  refine v_seq ?_
  refine v_reg ?_
  refine sy _ (zas rfl (ec rfl)) rfl rfl ?_
  refine s_end ?_
  refine v_block ?_
  refine v_lp (fun (q : Nat × Nat) => [(0, .t ⟨false, [.d (dS (a0))]⟩), (3, .t ⟨false, [.d (dI (q.2 : Int))]⟩)]) (fun q => []) (fun q => n_spec_l5TextL1 a0 q.1 q.2 = r ∧ (q.2 ≤ a0.size) ∧ (q.2 + q.1 = a0.size + 1)) (fun q => q.1) (a0.size + 1, (0 : Nat)) ⟨hr, by (try dsimp only); (try simp only [List.length_nil, List.length_cons, List.length_replicate]); first | done | omega | exact Nat.zero_le _, by (try dsimp only); (try simp only [List.length_nil, List.length_cons, List.length_replicate]); first | done | omega | exact Nat.zero_le _⟩ ⟨rfl, rfl, trivial⟩ trivial rfl (fun q hq => ?_)
  obtain ⟨n, i⟩ := q
  obtain ⟨hr, hi1x0, hi1x1⟩ := hq
  dsimp only at hr hi1x0 hi1x1
  show VWp _ _ _ (mk [(0, .t ⟨false, [.d (dS (a0))]⟩), (3, .t ⟨false, [.d (dI (i : Int))]⟩)] _ [])
  rcases n with _ | n
  · exfalso; omega
  rw [n_spec_l5TextL1] at hr
  refine v_seq ?_
  refine v_seq ?_
  refine v_reg ?_
  refine sy _ (zmv rfl (e rfl rfl)) rfl rfl ?_
  refine sy _ (zmv rfl (e rfl rfl)) rfl rfl ?_
  have hB1 : (a0).size ≤ 2097152 := h0
  refine sy (.t ⟨false, [.d (dI (a0.size : Int))]⟩) (zls tabOk rfl rfl (e rfl rfl)) rfl rfl ?_
  refine sy (.t ⟨false, [.d (dB (decide (((i : Int)) < ((a0.size : Int)))))]⟩) (y_bin rfl (e rfl rfl) (e rfl rfl) (fun _ => b_lss) rfl) rfl rfl ?_
  refine s_end ?_
  refine v_cond (e rfl rfl) (fun hb1 => ?_) fun hb1 => ?_
  · replace hr := bf_t hb1 hr
    have hb1p := dec_t hb1
    refine v_skip ?_
    refine v_seq ?_
    refine v_block ?_
    refine v_seq ?_
    refine v_reg ?_
    refine sy _ (zmv rfl (e rfl rfl)) rfl rfl ?_
    refine sy _ (zmv rfl (e rfl rfl)) rfl rfl ?_
    have hy2 : i < (a0).size := by omega
    have hy2g := @bt_ge a0 i; have hy2l := @bt_lt a0 i
    refine sy (.t ⟨false, [.d (.lf (.int .u8 (bt a0 i)))]⟩) (zby tabOk rfl rfl (e rfl rfl) (e rfl rfl) rfl hy2) rfl rfl ?_
    refine sy (.t ⟨false, [.d (dI (bt a0 i))]⟩) (y_conv rfl (e rfl rfl) (fun _ => c_u8i (by kernel_rfl) (by kernel_rfl) bt_ge bt_lt) rfl) rfl rfl ?_
    refine sd (.t ⟨false, [.d (dB (n_spec_l1In (bt a0 i) 33 126))]⟩) (zcd (.t ⟨false, [.d (dB (n_spec_l1In (bt a0 i) 33 126))]⟩) rfl (tr_n_spec_l1In (bt a0 i) 33 126) (ar (e rfl rfl) (.d .nil) (ar (ec rfl) (.d .nil) (ar (ec rfl) (.d .nil) .nil))) rfl) rfl rfl rfl rfl ?_
    refine sy (.t ⟨false, [.d (dB (!(n_spec_l1In (bt a0 i) 33 126)))]⟩) (y_un rfl (e rfl rfl) (fun _ => u_not) rfl) rfl rfl ?_
    refine s_end ?_
    refine v_cond (e rfl rfl) (fun hb3 => ?_) fun hb3 => ?_
    · replace hr := bf_t hb3 hr
      have hn4 := not_t hb3
      refine v_seq ?_
      refine v_reg ?_
      refine sy _ (zas rfl (ec rfl)) rfl rfl ?_
      refine s_end ?_
      refine v_ret ?_
      subst hr
      exact post_ret (rv (.tmp (eg rfl rfl)) rfl (.lf .nil) rfl .nil) (.ro .nil) rfl
    replace hr := bf_f hb3 hr
    have hn5 := not_f hb3
    refine v_skip ?_
    refine blk_norm ?_
    refine v_reg ?_
    refine sy _ (zmv rfl (e rfl rfl)) rfl rfl ?_
    refine sy (.t ⟨false, [.d (dI (i + 1 : Int))]⟩) (y_bin rfl (e rfl rfl) (ec rfl) (fun _ => b_addn (by omega) (by omega)) rfl) rfl rfl ?_
    refine sy _ (zas rfl (e rfl rfl)) rfl rfl ?_
    refine s_end ?_
    exact lp_next (n, i + 1) ⟨hr, by (try simp only [List.length_append, List.length_cons, List.length_nil, List.length_set]); first | done | omega, by (try simp only [List.length_append, List.length_cons, List.length_nil, List.length_set]); first | done | omega⟩ (Nat.lt_succ_self _) ⟨rfl, rfl, trivial⟩ trivial rfl
  replace hr := bf_f hb1 hr
  have hb1p := dec_f hb1
  refine v_exit ?_
  refine then_exit ?_
  refine loop_exit ?_
  refine blk_hit ?_
  refine v_seq ?_
  refine v_reg ?_
  refine sy _ (zmv rfl (e rfl rfl)) rfl rfl ?_
  refine sy (.t ⟨false, [.d (dI (a0.size : Int))]⟩) (zls tabOk rfl rfl (e rfl rfl)) rfl rfl ?_
  refine sy (.t ⟨false, [.d (dB (decide (((a0.size : Int)) ≤ (12))))]⟩) (y_bin rfl (e rfl rfl) (ec rfl) (fun _ => b_leq) rfl) rfl rfl ?_
  refine sy _ (zas rfl (e rfl rfl)) rfl rfl ?_
  refine s_end ?_
  refine v_ret ?_
  subst hr
  exact post_ret (rv (.tmp (eg rfl rfl)) rfl (.lf .nil) rfl .nil) (.ro .nil) rfl
def n_spec_RecordOk (a0 : Record) : Bool := cond (!(n_spec_NameOk a0.Name)) (false) (cond (!(n_spec_l1In a0.Ttl 0 100000)) (false) (cond (decide ((a0.Typ) = (1))) (cond (n_spec_l1In a0.N 0 2147483647) (cond (decide ((a0.Host) = ((⟨#[]⟩ : ByteArray)))) (decide ((a0.Text) = ((⟨#[]⟩ : ByteArray)))) (false)) (false)) (cond (decide ((a0.Typ) = (2))) (cond (decide ((a0.N) = (0))) (cond (n_spec_NameOk a0.Host) (decide ((a0.Text) = ((⟨#[]⟩ : ByteArray)))) (false)) (false)) (cond (decide ((a0.Typ) = (5))) (cond (decide ((a0.N) = (0))) (cond (n_spec_NameOk a0.Host) (decide ((a0.Text) = ((⟨#[]⟩ : ByteArray)))) (false)) (false)) (cond (decide ((a0.Typ) = (6))) (cond (n_spec_l1In a0.N 0 100000) (cond (n_spec_NameOk a0.Host) (decide ((a0.Text) = ((⟨#[]⟩ : ByteArray)))) (false)) (false)) (cond (decide ((a0.Typ) = (16))) (cond (decide ((a0.N) = (0))) (cond (decide ((a0.Host) = ((⟨#[]⟩ : ByteArray)))) (n_spec_l5Text a0.Text) (false)) (false)) (false)))))))
set_option maxHeartbeats 4000000 in
set_option maxRecDepth 20000 in
theorem tr_n_spec_RecordOk (a0 : Record) (h0 : Record.Fit a0) : Tr Tryd.prog 83 [.ro ⟨true, [dS (a0.Name), dI (a0.Typ), dI (a0.Ttl), dI (a0.N), dS (a0.Host), dS (a0.Text)]⟩] [⟨false, [dB ((n_spec_RecordOk a0))]⟩] := by
  obtain ⟨r, hr⟩ : ∃ r, n_spec_RecordOk a0 = r := ⟨_, rfl⟩
  rw [hr]
  rw [n_spec_RecordOk] at hr
  refine tr_go tabOk Tryd.func83 rfl rfl rfl rfl rfl (ov := [(0, .t ⟨true, [.d (dS (a0.Name)), .d (dI (a0.Typ)), .d (dI (a0.Ttl)), .d (dI (a0.N)), .d (dS (a0.Host)), .d (dS (a0.Text))]⟩)]) (hv := []) rfl rfl ?_
  refine v_seq ?_
  refine v_reg ?_
  refine sr 0 (.t ⟨false, [.vp 0 0]⟩) (.var [.d (dS (a0.Name)), .d (dI (a0.Typ)), .d (dI (a0.Ttl)), .d (dI (a0.N)), .d (dS (a0.Host)), .d (dS (a0.Text))]) (zbx rfl (e rfl rfl) rfl rfl rfl) rfl rfl ?_
  refine sy _ (zas rfl (ec rfl)) rfl rfl ?_
  refine s_end ?_
  refine v_seq ?_
  refine v_seq ?_
  refine v_reg ?_
  refine sy (.t ⟨false, [.vp 0 0]⟩) (zfa tabOk rfl rfl rfl (e rfl rfl) rfl rfl) rfl rfl ?_
  refine sy (.t ⟨false, [.d (dS (a0.Name))]⟩) (zlv tabOk rfl (e rfl rfl) rfl rfl rfl) rfl rfl ?_
  refine sd (.t ⟨false, [.d (dB (n_spec_NameOk a0.Name))]⟩) (zcd (.t ⟨false, [.d (dB (n_spec_NameOk a0.Name))]⟩) rfl (tr_n_spec_NameOk a0.Name h0.Name) (ar (e rfl rfl) (.d .nil) .nil) rfl) rfl rfl rfl rfl ?_
  refine sy (.t ⟨false, [.d (dB (!(n_spec_NameOk a0.Name)))]⟩) (y_un rfl (e rfl rfl) (fun _ => u_not) rfl) rfl rfl ?_
  refine sy _ (zmv rfl (e rfl rfl)) rfl rfl ?_
  rcases Bool.eq_false_or_eq_true (!(n_spec_NameOk a0.Name)) with hg1 | hg1
  · replace hr := bf_t hg1 hr
    have hn2 := not_t hg1
    refine gs rfl rfl rfl (eg rfl rfl) hg1 rfl ?_
    refine gs rfl rfl rfl (eg rfl rfl) hg1 rfl ?_
    refine gs rfl rfl rfl (eg rfl rfl) hg1 rfl ?_
    refine gs rfl rfl rfl (eg rfl rfl) hg1 rfl ?_
    refine sy (.t ⟨false, [.d (dB (true))]⟩) (zpt rfl (e rfl rfl) hg1 (ec rfl)) rfl rfl ?_
    refine s_end ?_
    refine v_cT (e rfl rfl) rfl ?_
    refine v_seq ?_
    refine v_reg ?_
    refine sy _ (zas rfl (ec rfl)) rfl rfl ?_
    refine s_end ?_
    refine v_ret ?_
    subst hr
    exact post_ret (rv (.tmp (eg rfl rfl)) rfl (.lf .nil) rfl .nil) (.ro .nil) rfl
  replace hr := bf_f hg1 hr
  have hn3 := not_f hg1
  refine gr rfl rfl rfl (eg rfl rfl) hg1 ?_
  refine sy (.t ⟨false, [.vp 0 2]⟩) (zfa tabOk rfl rfl rfl (e rfl rfl) rfl rfl) rfl rfl ?_
  refine gr rfl rfl rfl (eg rfl rfl) hg1 ?_
  refine sy (.t ⟨false, [.d (dI (a0.Ttl))]⟩) (zlv tabOk rfl (e rfl rfl) rfl rfl rfl) rfl rfl ?_
  refine gr rfl rfl rfl (eg rfl rfl) hg1 ?_
  refine sd (.t ⟨false, [.d (dB (n_spec_l1In a0.Ttl 0 100000))]⟩) (zcd (.t ⟨false, [.d (dB (n_spec_l1In a0.Ttl 0 100000))]⟩) rfl (tr_n_spec_l1In a0.Ttl 0 100000) (ar (e rfl rfl) (.d .nil) (ar (ec rfl) (.d .nil) (ar (ec rfl) (.d .nil) .nil))) rfl) rfl rfl rfl rfl ?_
  refine gr rfl rfl rfl (eg rfl rfl) hg1 ?_
  refine sy (.t ⟨false, [.d (dB (!(n_spec_l1In a0.Ttl 0 100000)))]⟩) (y_un rfl (e rfl rfl) (fun _ => u_not) rfl) rfl rfl ?_
  refine sy (.t ⟨false, [.d (dB (!(n_spec_l1In a0.Ttl 0 100000)))]⟩) (zpf rfl (e rfl rfl) hg1 (e rfl rfl)) rfl rfl ?_
  refine s_end ?_
  refine v_cond (e rfl rfl) (fun hb4 => ?_) fun hb4 => ?_
  · replace hr := bf_t hb4 hr
    have hn5 := not_t hb4
    refine v_seq ?_
    refine v_reg ?_
    refine sy _ (zas rfl (ec rfl)) rfl rfl ?_
    refine s_end ?_
    refine v_ret ?_
    subst hr
    exact post_ret (rv (.tmp (eg rfl rfl)) rfl (.lf .nil) rfl .nil) (.ro .nil) rfl
  replace hr := bf_f hb4 hr
  have hn6 := not_f hb4
  refine v_skip ?_
  refine v_seq ?_
  refine v_seq ?_
  refine v_reg ?_
  refine sy (.t ⟨false, [.vp 0 1]⟩) (zfa tabOk rfl rfl rfl (e rfl rfl) rfl rfl) rfl rfl ?_
  refine sy (.t ⟨false, [.d (dI (a0.Typ))]⟩) (zlv tabOk rfl (e rfl rfl) rfl rfl rfl) rfl rfl ?_
  refine s_end ?_
  refine v_block ?_
  refine v_seq ?_
  refine v_reg ?_
  refine sy (.t ⟨false, [.d (dB (decide ((a0.Typ) = (1))))]⟩) (y_bin rfl (e rfl rfl) (ec rfl) (fun _ => b_eql) rfl) rfl rfl ?_
  refine sy _ (zas rfl (e rfl rfl)) rfl rfl ?_
  refine s_end ?_
  refine v_cond (e rfl rfl) (fun hb7 => ?_) fun hb7 => ?_
  · replace hr := bf_t hb7 hr
    have hb7p := dec_t hb7
    refine v_seq ?_
    refine v_reg ?_
    refine sy (.t ⟨false, [.vp 0 3]⟩) (zfa tabOk rfl rfl rfl (e rfl rfl) rfl rfl) rfl rfl ?_
    refine sy (.t ⟨false, [.d (dI (a0.N))]⟩) (zlv tabOk rfl (e rfl rfl) rfl rfl rfl) rfl rfl ?_
    refine sd (.t ⟨false, [.d (dB (n_spec_l1In a0.N 0 2147483647))]⟩) (zcd (.t ⟨false, [.d (dB (n_spec_l1In a0.N 0 2147483647))]⟩) rfl (tr_n_spec_l1In a0.N 0 2147483647) (ar (e rfl rfl) (.d .nil) (ar (ec rfl) (.d .nil) (ar (ec rfl) (.d .nil) .nil))) rfl) rfl rfl rfl rfl ?_
    refine sy _ (zmv rfl (e rfl rfl)) rfl rfl ?_
    rcases Bool.eq_false_or_eq_true (n_spec_l1In a0.N 0 2147483647) with hg8 | hg8
    · replace hr := bf_t hg8 hr
      refine gr rfl rfl rfl (eg rfl rfl) hg8 ?_
      refine sy (.t ⟨false, [.vp 0 4]⟩) (zfa tabOk rfl rfl rfl (e rfl rfl) rfl rfl) rfl rfl ?_
      refine gr rfl rfl rfl (eg rfl rfl) hg8 ?_
      refine sy (.t ⟨false, [.d (dS (a0.Host))]⟩) (zlv tabOk rfl (e rfl rfl) rfl rfl rfl) rfl rfl ?_
      refine gr rfl rfl rfl (eg rfl rfl) hg8 ?_
      refine sy (.t ⟨false, [.d (dB (decide ((a0.Host) = ((⟨#[]⟩ : ByteArray)))))]⟩) (y_bin rfl (e rfl rfl) (ec rfl) (fun _ => b_seql) rfl) rfl rfl ?_
      refine sy (.t ⟨false, [.d (dB (decide ((a0.Host) = ((⟨#[]⟩ : ByteArray)))))]⟩) (zpt rfl (e rfl rfl) hg8 (e rfl rfl)) rfl rfl ?_
      refine sy _ (zmv rfl (e rfl rfl)) rfl rfl ?_
      rcases Bool.eq_false_or_eq_true (decide ((a0.Host) = ((⟨#[]⟩ : ByteArray)))) with hg9 | hg9
      · replace hr := bf_t hg9 hr
        have hg9p := dec_t hg9
        refine gr rfl rfl rfl (eg rfl rfl) hg9 ?_
        refine sy (.t ⟨false, [.vp 0 5]⟩) (zfa tabOk rfl rfl rfl (e rfl rfl) rfl rfl) rfl rfl ?_
        refine gr rfl rfl rfl (eg rfl rfl) hg9 ?_
        refine sy (.t ⟨false, [.d (dS (a0.Text))]⟩) (zlv tabOk rfl (e rfl rfl) rfl rfl rfl) rfl rfl ?_
        refine gr rfl rfl rfl (eg rfl rfl) hg9 ?_
        refine sy (.t ⟨false, [.d (dB (decide ((a0.Text) = ((⟨#[]⟩ : ByteArray)))))]⟩) (y_bin rfl (e rfl rfl) (ec rfl) (fun _ => b_seql) rfl) rfl rfl ?_
        refine sy (.t ⟨false, [.d (dB (decide ((a0.Text) = ((⟨#[]⟩ : ByteArray)))))]⟩) (zpt rfl (e rfl rfl) hg9 (e rfl rfl)) rfl rfl ?_
        refine sy _ (zas rfl (e rfl rfl)) rfl rfl ?_
        refine s_end ?_
        refine v_ret ?_
        subst hr
        exact post_ret (rv (.tmp (eg rfl rfl)) rfl (.lf .nil) rfl .nil) (.ro .nil) rfl
      replace hr := bf_f hg9 hr
      have hg9p := dec_f hg9
      refine gs rfl rfl rfl (eg rfl rfl) hg9 rfl ?_
      refine gs rfl rfl rfl (eg rfl rfl) hg9 rfl ?_
      refine gs rfl rfl rfl (eg rfl rfl) hg9 rfl ?_
      refine sy (.t ⟨false, [.d (dB (false))]⟩) (zpf rfl (e rfl rfl) hg9 (ec rfl)) rfl rfl ?_
      refine sy _ (zas rfl (e rfl rfl)) rfl rfl ?_
      refine s_end ?_
      refine v_ret ?_
      subst hr
      exact post_ret (rv (.tmp (eg rfl rfl)) rfl (.lf .nil) rfl .nil) (.ro .nil) rfl
    replace hr := bf_f hg8 hr
    refine gs rfl rfl rfl (eg rfl rfl) hg8 rfl ?_
    refine gs rfl rfl rfl (eg rfl rfl) hg8 rfl ?_
    refine gs rfl rfl rfl (eg rfl rfl) hg8 rfl ?_
    refine sy (.t ⟨false, [.d (dB (false))]⟩) (zpf rfl (e rfl rfl) hg8 (ec rfl)) rfl rfl ?_
    refine sy _ (zmv rfl (e rfl rfl)) rfl rfl ?_
    refine gs rfl rfl rfl (eg rfl rfl) rfl rfl ?_
    refine gs rfl rfl rfl (eg rfl rfl) rfl rfl ?_
    refine gs rfl rfl rfl (eg rfl rfl) rfl rfl ?_
    refine sy (.t ⟨false, [.d (dB (false))]⟩) (zpf rfl (e rfl rfl) rfl (ec rfl)) rfl rfl ?_
    refine sy _ (zas rfl (e rfl rfl)) rfl rfl ?_
    refine s_end ?_
    refine v_ret ?_
    subst hr
    exact post_ret (rv (.tmp (eg rfl rfl)) rfl (.lf .nil) rfl .nil) (.ro .nil) rfl
  replace hr := bf_f hb7 hr
  have hb7p := dec_f hb7
  refine v_seq ?_
  refine v_seq ?_
  refine v_reg ?_
  refine sy (.t ⟨false, [.d (dB (decide ((a0.Typ) = (2))))]⟩) (y_bin rfl (e rfl rfl) (ec rfl) (fun _ => b_eql) rfl) rfl rfl ?_
  refine sy _ (zas rfl (e rfl rfl)) rfl rfl ?_
  refine s_end ?_
  refine v_cond (e rfl rfl) (fun hb10 => ?_) fun hb10 => ?_
  · replace hr := bf_t hb10 hr
    have hb10p := dec_t hb10
    refine v_skip ?_
    refine v_cT (e rfl rfl) hb10 ?_
    refine v_seq ?_
    refine v_reg ?_
    refine sy (.t ⟨false, [.vp 0 3]⟩) (zfa tabOk rfl rfl rfl (e rfl rfl) rfl rfl) rfl rfl ?_
    refine sy (.t ⟨false, [.d (dI (a0.N))]⟩) (zlv tabOk rfl (e rfl rfl) rfl rfl rfl) rfl rfl ?_
    refine sy (.t ⟨false, [.d (dB (decide ((a0.N) = (0))))]⟩) (y_bin rfl (e rfl rfl) (ec rfl) (fun _ => b_eql) rfl) rfl rfl ?_
    refine sy _ (zmv rfl (e rfl rfl)) rfl rfl ?_
    rcases Bool.eq_false_or_eq_true (decide ((a0.N) = (0))) with hg11 | hg11
    · replace hr := bf_t hg11 hr
      have hg11p := dec_t hg11
      refine gr rfl rfl rfl (eg rfl rfl) hg11 ?_
      refine sy (.t ⟨false, [.vp 0 4]⟩) (zfa tabOk rfl rfl rfl (e rfl rfl) rfl rfl) rfl rfl ?_
      refine gr rfl rfl rfl (eg rfl rfl) hg11 ?_
      refine sy (.t ⟨false, [.d (dS (a0.Host))]⟩) (zlv tabOk rfl (e rfl rfl) rfl rfl rfl) rfl rfl ?_
      refine gr rfl rfl rfl (eg rfl rfl) hg11 ?_
      refine sd (.t ⟨false, [.d (dB (n_spec_NameOk a0.Host))]⟩) (zcd (.t ⟨false, [.d (dB (n_spec_NameOk a0.Host))]⟩) rfl (tr_n_spec_NameOk a0.Host h0.Host) (ar (e rfl rfl) (.d .nil) .nil) rfl) rfl rfl rfl rfl ?_
      refine sy (.t ⟨false, [.d (dB (n_spec_NameOk a0.Host))]⟩) (zpt rfl (e rfl rfl) hg11 (e rfl rfl)) rfl rfl ?_
      refine sy _ (zmv rfl (e rfl rfl)) rfl rfl ?_
      rcases Bool.eq_false_or_eq_true (n_spec_NameOk a0.Host) with hg12 | hg12
      · replace hr := bf_t hg12 hr
        refine gr rfl rfl rfl (eg rfl rfl) hg12 ?_
        refine sy (.t ⟨false, [.vp 0 5]⟩) (zfa tabOk rfl rfl rfl (e rfl rfl) rfl rfl) rfl rfl ?_
        refine gr rfl rfl rfl (eg rfl rfl) hg12 ?_
        refine sy (.t ⟨false, [.d (dS (a0.Text))]⟩) (zlv tabOk rfl (e rfl rfl) rfl rfl rfl) rfl rfl ?_
        refine gr rfl rfl rfl (eg rfl rfl) hg12 ?_
        refine sy (.t ⟨false, [.d (dB (decide ((a0.Text) = ((⟨#[]⟩ : ByteArray)))))]⟩) (y_bin rfl (e rfl rfl) (ec rfl) (fun _ => b_seql) rfl) rfl rfl ?_
        refine sy (.t ⟨false, [.d (dB (decide ((a0.Text) = ((⟨#[]⟩ : ByteArray)))))]⟩) (zpt rfl (e rfl rfl) hg12 (e rfl rfl)) rfl rfl ?_
        refine sy _ (zas rfl (e rfl rfl)) rfl rfl ?_
        refine s_end ?_
        refine v_ret ?_
        subst hr
        exact post_ret (rv (.tmp (eg rfl rfl)) rfl (.lf .nil) rfl .nil) (.ro .nil) rfl
      replace hr := bf_f hg12 hr
      refine gs rfl rfl rfl (eg rfl rfl) hg12 rfl ?_
      refine gs rfl rfl rfl (eg rfl rfl) hg12 rfl ?_
      refine gs rfl rfl rfl (eg rfl rfl) hg12 rfl ?_
      refine sy (.t ⟨false, [.d (dB (false))]⟩) (zpf rfl (e rfl rfl) hg12 (ec rfl)) rfl rfl ?_
      refine sy _ (zas rfl (e rfl rfl)) rfl rfl ?_
      refine s_end ?_
      refine v_ret ?_
      subst hr
      exact post_ret (rv (.tmp (eg rfl rfl)) rfl (.lf .nil) rfl .nil) (.ro .nil) rfl
    replace hr := bf_f hg11 hr
    have hg11p := dec_f hg11
    refine gs rfl rfl rfl (eg rfl rfl) hg11 rfl ?_
    refine gs rfl rfl rfl (eg rfl rfl) hg11 rfl ?_
    refine gs rfl rfl rfl (eg rfl rfl) hg11 rfl ?_
    refine sy (.t ⟨false, [.d (dB (false))]⟩) (zpf rfl (e rfl rfl) hg11 (ec rfl)) rfl rfl ?_
    refine sy _ (zmv rfl (e rfl rfl)) rfl rfl ?_
    refine gs rfl rfl rfl (eg rfl rfl) rfl rfl ?_
    refine gs rfl rfl rfl (eg rfl rfl) rfl rfl ?_
    refine gs rfl rfl rfl (eg rfl rfl) rfl rfl ?_
    refine sy (.t ⟨false, [.d (dB (false))]⟩) (zpf rfl (e rfl rfl) rfl (ec rfl)) rfl rfl ?_
    refine sy _ (zas rfl (e rfl rfl)) rfl rfl ?_
    refine s_end ?_
    refine v_ret ?_
    subst hr
    exact post_ret (rv (.tmp (eg rfl rfl)) rfl (.lf .nil) rfl .nil) (.ro .nil) rfl
  replace hr := bf_f hb10 hr
  have hb10p := dec_f hb10
  refine v_reg ?_
  refine sy (.t ⟨false, [.d (dB (decide ((a0.Typ) = (5))))]⟩) (y_bin rfl (e rfl rfl) (ec rfl) (fun _ => b_eql) rfl) rfl rfl ?_
  refine sy _ (zas rfl (e rfl rfl)) rfl rfl ?_
  refine s_end ?_
  refine v_cond (e rfl rfl) (fun hb13 => ?_) fun hb13 => ?_
  · replace hr := bf_t hb13 hr
    have hb13p := dec_t hb13
    refine v_seq ?_
    refine v_reg ?_
    refine sy (.t ⟨false, [.vp 0 3]⟩) (zfa tabOk rfl rfl rfl (e rfl rfl) rfl rfl) rfl rfl ?_
    refine sy (.t ⟨false, [.d (dI (a0.N))]⟩) (zlv tabOk rfl (e rfl rfl) rfl rfl rfl) rfl rfl ?_
    refine sy (.t ⟨false, [.d (dB (decide ((a0.N) = (0))))]⟩) (y_bin rfl (e rfl rfl) (ec rfl) (fun _ => b_eql) rfl) rfl rfl ?_
    refine sy _ (zmv rfl (e rfl rfl)) rfl rfl ?_
    rcases Bool.eq_false_or_eq_true (decide ((a0.N) = (0))) with hg14 | hg14
    · replace hr := bf_t hg14 hr
      have hg14p := dec_t hg14
      refine gr rfl rfl rfl (eg rfl rfl) hg14 ?_
      refine sy (.t ⟨false, [.vp 0 4]⟩) (zfa tabOk rfl rfl rfl (e rfl rfl) rfl rfl) rfl rfl ?_
      refine gr rfl rfl rfl (eg rfl rfl) hg14 ?_
      refine sy (.t ⟨false, [.d (dS (a0.Host))]⟩) (zlv tabOk rfl (e rfl rfl) rfl rfl rfl) rfl rfl ?_
      refine gr rfl rfl rfl (eg rfl rfl) hg14 ?_
      refine sd (.t ⟨false, [.d (dB (n_spec_NameOk a0.Host))]⟩) (zcd (.t ⟨false, [.d (dB (n_spec_NameOk a0.Host))]⟩) rfl (tr_n_spec_NameOk a0.Host h0.Host) (ar (e rfl rfl) (.d .nil) .nil) rfl) rfl rfl rfl rfl ?_
      refine sy (.t ⟨false, [.d (dB (n_spec_NameOk a0.Host))]⟩) (zpt rfl (e rfl rfl) hg14 (e rfl rfl)) rfl rfl ?_
      refine sy _ (zmv rfl (e rfl rfl)) rfl rfl ?_
      rcases Bool.eq_false_or_eq_true (n_spec_NameOk a0.Host) with hg15 | hg15
      · replace hr := bf_t hg15 hr
        refine gr rfl rfl rfl (eg rfl rfl) hg15 ?_
        refine sy (.t ⟨false, [.vp 0 5]⟩) (zfa tabOk rfl rfl rfl (e rfl rfl) rfl rfl) rfl rfl ?_
        refine gr rfl rfl rfl (eg rfl rfl) hg15 ?_
        refine sy (.t ⟨false, [.d (dS (a0.Text))]⟩) (zlv tabOk rfl (e rfl rfl) rfl rfl rfl) rfl rfl ?_
        refine gr rfl rfl rfl (eg rfl rfl) hg15 ?_
        refine sy (.t ⟨false, [.d (dB (decide ((a0.Text) = ((⟨#[]⟩ : ByteArray)))))]⟩) (y_bin rfl (e rfl rfl) (ec rfl) (fun _ => b_seql) rfl) rfl rfl ?_
        refine sy (.t ⟨false, [.d (dB (decide ((a0.Text) = ((⟨#[]⟩ : ByteArray)))))]⟩) (zpt rfl (e rfl rfl) hg15 (e rfl rfl)) rfl rfl ?_
        refine sy _ (zas rfl (e rfl rfl)) rfl rfl ?_
        refine s_end ?_
        refine v_ret ?_
        subst hr
        exact post_ret (rv (.tmp (eg rfl rfl)) rfl (.lf .nil) rfl .nil) (.ro .nil) rfl
      replace hr := bf_f hg15 hr
      refine gs rfl rfl rfl (eg rfl rfl) hg15 rfl ?_
      refine gs rfl rfl rfl (eg rfl rfl) hg15 rfl ?_
      refine gs rfl rfl rfl (eg rfl rfl) hg15 rfl ?_
      refine sy (.t ⟨false, [.d (dB (false))]⟩) (zpf rfl (e rfl rfl) hg15 (ec rfl)) rfl rfl ?_
      refine sy _ (zas rfl (e rfl rfl)) rfl rfl ?_
      refine s_end ?_
      refine v_ret ?_
      subst hr
      exact post_ret (rv (.tmp (eg rfl rfl)) rfl (.lf .nil) rfl .nil) (.ro .nil) rfl
    replace hr := bf_f hg14 hr
    have hg14p := dec_f hg14
    refine gs rfl rfl rfl (eg rfl rfl) hg14 rfl ?_
    refine gs rfl rfl rfl (eg rfl rfl) hg14 rfl ?_
    refine gs rfl rfl rfl (eg rfl rfl) hg14 rfl ?_
    refine sy (.t ⟨false, [.d (dB (false))]⟩) (zpf rfl (e rfl rfl) hg14 (ec rfl)) rfl rfl ?_
    refine sy _ (zmv rfl (e rfl rfl)) rfl rfl ?_
    refine gs rfl rfl rfl (eg rfl rfl) rfl rfl ?_
    refine gs rfl rfl rfl (eg rfl rfl) rfl rfl ?_
    refine gs rfl rfl rfl (eg rfl rfl) rfl rfl ?_
    refine sy (.t ⟨false, [.d (dB (false))]⟩) (zpf rfl (e rfl rfl) rfl (ec rfl)) rfl rfl ?_
    refine sy _ (zas rfl (e rfl rfl)) rfl rfl ?_
    refine s_end ?_
    refine v_ret ?_
    subst hr
    exact post_ret (rv (.tmp (eg rfl rfl)) rfl (.lf .nil) rfl .nil) (.ro .nil) rfl
  replace hr := bf_f hb13 hr
  have hb13p := dec_f hb13
  refine v_seq ?_
  refine v_reg ?_
  refine sy (.t ⟨false, [.d (dB (decide ((a0.Typ) = (6))))]⟩) (y_bin rfl (e rfl rfl) (ec rfl) (fun _ => b_eql) rfl) rfl rfl ?_
  refine sy _ (zas rfl (e rfl rfl)) rfl rfl ?_
  refine s_end ?_
  refine v_cond (e rfl rfl) (fun hb16 => ?_) fun hb16 => ?_
  · replace hr := bf_t hb16 hr
    have hb16p := dec_t hb16
    refine v_seq ?_
    refine v_reg ?_
    refine sy (.t ⟨false, [.vp 0 3]⟩) (zfa tabOk rfl rfl rfl (e rfl rfl) rfl rfl) rfl rfl ?_
    refine sy (.t ⟨false, [.d (dI (a0.N))]⟩) (zlv tabOk rfl (e rfl rfl) rfl rfl rfl) rfl rfl ?_
    refine sd (.t ⟨false, [.d (dB (n_spec_l1In a0.N 0 100000))]⟩) (zcd (.t ⟨false, [.d (dB (n_spec_l1In a0.N 0 100000))]⟩) rfl (tr_n_spec_l1In a0.N 0 100000) (ar (e rfl rfl) (.d .nil) (ar (ec rfl) (.d .nil) (ar (ec rfl) (.d .nil) .nil))) rfl) rfl rfl rfl rfl ?_
    refine sy _ (zmv rfl (e rfl rfl)) rfl rfl ?_
    rcases Bool.eq_false_or_eq_true (n_spec_l1In a0.N 0 100000) with hg17 | hg17
    · replace hr := bf_t hg17 hr
      refine gr rfl rfl rfl (eg rfl rfl) hg17 ?_
      refine sy (.t ⟨false, [.vp 0 4]⟩) (zfa tabOk rfl rfl rfl (e rfl rfl) rfl rfl) rfl rfl ?_
      refine gr rfl rfl rfl (eg rfl rfl) hg17 ?_
      refine sy (.t ⟨false, [.d (dS (a0.Host))]⟩) (zlv tabOk rfl (e rfl rfl) rfl rfl rfl) rfl rfl ?_
      refine gr rfl rfl rfl (eg rfl rfl) hg17 ?_
      refine sd (.t ⟨false, [.d (dB (n_spec_NameOk a0.Host))]⟩) (zcd (.t ⟨false, [.d (dB (n_spec_NameOk a0.Host))]⟩) rfl (tr_n_spec_NameOk a0.Host h0.Host) (ar (e rfl rfl) (.d .nil) .nil) rfl) rfl rfl rfl rfl ?_
      refine sy (.t ⟨false, [.d (dB (n_spec_NameOk a0.Host))]⟩) (zpt rfl (e rfl rfl) hg17 (e rfl rfl)) rfl rfl ?_
      refine sy _ (zmv rfl (e rfl rfl)) rfl rfl ?_
      rcases Bool.eq_false_or_eq_true (n_spec_NameOk a0.Host) with hg18 | hg18
      · replace hr := bf_t hg18 hr
        refine gr rfl rfl rfl (eg rfl rfl) hg18 ?_
        refine sy (.t ⟨false, [.vp 0 5]⟩) (zfa tabOk rfl rfl rfl (e rfl rfl) rfl rfl) rfl rfl ?_
        refine gr rfl rfl rfl (eg rfl rfl) hg18 ?_
        refine sy (.t ⟨false, [.d (dS (a0.Text))]⟩) (zlv tabOk rfl (e rfl rfl) rfl rfl rfl) rfl rfl ?_
        refine gr rfl rfl rfl (eg rfl rfl) hg18 ?_
        refine sy (.t ⟨false, [.d (dB (decide ((a0.Text) = ((⟨#[]⟩ : ByteArray)))))]⟩) (y_bin rfl (e rfl rfl) (ec rfl) (fun _ => b_seql) rfl) rfl rfl ?_
        refine sy (.t ⟨false, [.d (dB (decide ((a0.Text) = ((⟨#[]⟩ : ByteArray)))))]⟩) (zpt rfl (e rfl rfl) hg18 (e rfl rfl)) rfl rfl ?_
        refine sy _ (zas rfl (e rfl rfl)) rfl rfl ?_
        refine s_end ?_
        refine v_ret ?_
        subst hr
        exact post_ret (rv (.tmp (eg rfl rfl)) rfl (.lf .nil) rfl .nil) (.ro .nil) rfl
      replace hr := bf_f hg18 hr
      refine gs rfl rfl rfl (eg rfl rfl) hg18 rfl ?_
      refine gs rfl rfl rfl (eg rfl rfl) hg18 rfl ?_
      refine gs rfl rfl rfl (eg rfl rfl) hg18 rfl ?_
      refine sy (.t ⟨false, [.d (dB (false))]⟩) (zpf rfl (e rfl rfl) hg18 (ec rfl)) rfl rfl ?_
      refine sy _ (zas rfl (e rfl rfl)) rfl rfl ?_
      refine s_end ?_
      refine v_ret ?_
      subst hr
      exact post_ret (rv (.tmp (eg rfl rfl)) rfl (.lf .nil) rfl .nil) (.ro .nil) rfl
    replace hr := bf_f hg17 hr
    refine gs rfl rfl rfl (eg rfl rfl) hg17 rfl ?_
    refine gs rfl rfl rfl (eg rfl rfl) hg17 rfl ?_
    refine gs rfl rfl rfl (eg rfl rfl) hg17 rfl ?_
    refine sy (.t ⟨false, [.d (dB (false))]⟩) (zpf rfl (e rfl rfl) hg17 (ec rfl)) rfl rfl ?_
    refine sy _ (zmv rfl (e rfl rfl)) rfl rfl ?_
    refine gs rfl rfl rfl (eg rfl rfl) rfl rfl ?_
    refine gs rfl rfl rfl (eg rfl rfl) rfl rfl ?_
    refine gs rfl rfl rfl (eg rfl rfl) rfl rfl ?_
    refine sy (.t ⟨false, [.d (dB (false))]⟩) (zpf rfl (e rfl rfl) rfl (ec rfl)) rfl rfl ?_
    refine sy _ (zas rfl (e rfl rfl)) rfl rfl ?_
    refine s_end ?_
    refine v_ret ?_
    subst hr
    exact post_ret (rv (.tmp (eg rfl rfl)) rfl (.lf .nil) rfl .nil) (.ro .nil) rfl
  replace hr := bf_f hb16 hr
  have hb16p := dec_f hb16
  refine v_skip ?_
  refine blk_norm ?_
  refine v_seq ?_
  refine v_reg ?_
  refine sy (.t ⟨false, [.vp 0 1]⟩) (zfa tabOk rfl rfl rfl (e rfl rfl) rfl rfl) rfl rfl ?_
  refine sy (.t ⟨false, [.d (dI (a0.Typ))]⟩) (zlv tabOk rfl (e rfl rfl) rfl rfl rfl) rfl rfl ?_
  refine sy (.t ⟨false, [.d (dB (decide ((a0.Typ) = (16))))]⟩) (y_bin rfl (e rfl rfl) (ec rfl) (fun _ => b_eql) rfl) rfl rfl ?_
  refine sy _ (zmv rfl (e rfl rfl)) rfl rfl ?_
  rcases Bool.eq_false_or_eq_true (decide ((a0.Typ) = (16))) with hg19 | hg19
  · replace hr := bf_t hg19 hr
    have hg19p := dec_t hg19
    refine gr rfl rfl rfl (eg rfl rfl) hg19 ?_
    refine sy (.t ⟨false, [.vp 0 3]⟩) (zfa tabOk rfl rfl rfl (e rfl rfl) rfl rfl) rfl rfl ?_
    refine gr rfl rfl rfl (eg rfl rfl) hg19 ?_
    refine sy (.t ⟨false, [.d (dI (a0.N))]⟩) (zlv tabOk rfl (e rfl rfl) rfl rfl rfl) rfl rfl ?_
    refine gr rfl rfl rfl (eg rfl rfl) hg19 ?_
    refine sy (.t ⟨false, [.d (dB (decide ((a0.N) = (0))))]⟩) (y_bin rfl (e rfl rfl) (ec rfl) (fun _ => b_eql) rfl) rfl rfl ?_
    refine sy (.t ⟨false, [.d (dB (decide ((a0.N) = (0))))]⟩) (zpt rfl (e rfl rfl) hg19 (e rfl rfl)) rfl rfl ?_
    refine sy _ (zmv rfl (e rfl rfl)) rfl rfl ?_
    rcases Bool.eq_false_or_eq_true (decide ((a0.N) = (0))) with hg20 | hg20
    · replace hr := bf_t hg20 hr
      have hg20p := dec_t hg20
      refine gr rfl rfl rfl (eg rfl rfl) hg20 ?_
      refine sy (.t ⟨false, [.vp 0 4]⟩) (zfa tabOk rfl rfl rfl (e rfl rfl) rfl rfl) rfl rfl ?_
      refine gr rfl rfl rfl (eg rfl rfl) hg20 ?_
      refine sy (.t ⟨false, [.d (dS (a0.Host))]⟩) (zlv tabOk rfl (e rfl rfl) rfl rfl rfl) rfl rfl ?_
      refine gr rfl rfl rfl (eg rfl rfl) hg20 ?_
      refine sy (.t ⟨false, [.d (dB (decide ((a0.Host) = ((⟨#[]⟩ : ByteArray)))))]⟩) (y_bin rfl (e rfl rfl) (ec rfl) (fun _ => b_seql) rfl) rfl rfl ?_
      refine sy (.t ⟨false, [.d (dB (decide ((a0.Host) = ((⟨#[]⟩ : ByteArray)))))]⟩) (zpt rfl (e rfl rfl) hg20 (e rfl rfl)) rfl rfl ?_
      refine sy _ (zmv rfl (e rfl rfl)) rfl rfl ?_
      rcases Bool.eq_false_or_eq_true (decide ((a0.Host) = ((⟨#[]⟩ : ByteArray)))) with hg21 | hg21
      · replace hr := bf_t hg21 hr
        have hg21p := dec_t hg21
        refine gr rfl rfl rfl (eg rfl rfl) hg21 ?_
        refine sy (.t ⟨false, [.vp 0 5]⟩) (zfa tabOk rfl rfl rfl (e rfl rfl) rfl rfl) rfl rfl ?_
        refine gr rfl rfl rfl (eg rfl rfl) hg21 ?_
        refine sy (.t ⟨false, [.d (dS (a0.Text))]⟩) (zlv tabOk rfl (e rfl rfl) rfl rfl rfl) rfl rfl ?_
        refine gr rfl rfl rfl (eg rfl rfl) hg21 ?_
        refine sd (.t ⟨false, [.d (dB (n_spec_l5Text a0.Text))]⟩) (zcd (.t ⟨false, [.d (dB (n_spec_l5Text a0.Text))]⟩) rfl (tr_n_spec_l5Text a0.Text h0.Text) (ar (e rfl rfl) (.d .nil) .nil) rfl) rfl rfl rfl rfl ?_
        refine sy (.t ⟨false, [.d (dB (n_spec_l5Text a0.Text))]⟩) (zpt rfl (e rfl rfl) hg21 (e rfl rfl)) rfl rfl ?_
        refine sy _ (zas rfl (e rfl rfl)) rfl rfl ?_
        refine s_end ?_
        refine v_ret ?_
        subst hr
        exact post_ret (rv (.tmp (eg rfl rfl)) rfl (.lf .nil) rfl .nil) (.ro .nil) rfl
      replace hr := bf_f hg21 hr
      have hg21p := dec_f hg21
      refine gs rfl rfl rfl (eg rfl rfl) hg21 rfl ?_
      refine gs rfl rfl rfl (eg rfl rfl) hg21 rfl ?_
      refine gs rfl rfl rfl (eg rfl rfl) hg21 rfl ?_
      refine sy (.t ⟨false, [.d (dB (false))]⟩) (zpf rfl (e rfl rfl) hg21 (ec rfl)) rfl rfl ?_
      refine sy _ (zas rfl (e rfl rfl)) rfl rfl ?_
      refine s_end ?_
      refine v_ret ?_
      subst hr
      exact post_ret (rv (.tmp (eg rfl rfl)) rfl (.lf .nil) rfl .nil) (.ro .nil) rfl
    replace hr := bf_f hg20 hr
    have hg20p := dec_f hg20
    refine gs rfl rfl rfl (eg rfl rfl) hg20 rfl ?_
    refine gs rfl rfl rfl (eg rfl rfl) hg20 rfl ?_
    refine gs rfl rfl rfl (eg rfl rfl) hg20 rfl ?_
    refine sy (.t ⟨false, [.d (dB (false))]⟩) (zpf rfl (e rfl rfl) hg20 (ec rfl)) rfl rfl ?_
    refine sy _ (zmv rfl (e rfl rfl)) rfl rfl ?_
    refine gs rfl rfl rfl (eg rfl rfl) rfl rfl ?_
    refine gs rfl rfl rfl (eg rfl rfl) rfl rfl ?_
    refine gs rfl rfl rfl (eg rfl rfl) rfl rfl ?_
    refine sy (.t ⟨false, [.d (dB (false))]⟩) (zpf rfl (e rfl rfl) rfl (ec rfl)) rfl rfl ?_
    refine sy _ (zas rfl (e rfl rfl)) rfl rfl ?_
    refine s_end ?_
    refine v_ret ?_
    subst hr
    exact post_ret (rv (.tmp (eg rfl rfl)) rfl (.lf .nil) rfl .nil) (.ro .nil) rfl
  replace hr := bf_f hg19 hr
  have hg19p := dec_f hg19
  refine gs rfl rfl rfl (eg rfl rfl) hg19 rfl ?_
  refine gs rfl rfl rfl (eg rfl rfl) hg19 rfl ?_
  refine gs rfl rfl rfl (eg rfl rfl) hg19 rfl ?_
  refine sy (.t ⟨false, [.d (dB (false))]⟩) (zpf rfl (e rfl rfl) hg19 (ec rfl)) rfl rfl ?_
  refine sy _ (zmv rfl (e rfl rfl)) rfl rfl ?_
  refine gs rfl rfl rfl (eg rfl rfl) rfl rfl ?_
  refine gs rfl rfl rfl (eg rfl rfl) rfl rfl ?_
  refine gs rfl rfl rfl (eg rfl rfl) rfl rfl ?_
  refine sy (.t ⟨false, [.d (dB (false))]⟩) (zpf rfl (e rfl rfl) rfl (ec rfl)) rfl rfl ?_
  refine sy _ (zmv rfl (e rfl rfl)) rfl rfl ?_
  refine gs rfl rfl rfl (eg rfl rfl) rfl rfl ?_
  refine gs rfl rfl rfl (eg rfl rfl) rfl rfl ?_
  refine gs rfl rfl rfl (eg rfl rfl) rfl rfl ?_
  refine sy (.t ⟨false, [.d (dB (false))]⟩) (zpf rfl (e rfl rfl) rfl (ec rfl)) rfl rfl ?_
  refine sy _ (zas rfl (e rfl rfl)) rfl rfl ?_
  refine s_end ?_
  refine v_ret ?_
  subst hr
  exact post_ret (rv (.tmp (eg rfl rfl)) rfl (.lf .nil) rfl .nil) (.ro .nil) rfl
def n_spec_l7ListL1 (a0 : List Record) : Nat → Nat → Bool
  | 0, _ => default
  | n + 1, i => cond (decide (((i : Int)) < (((a0).length : Int)))) (atL (a0) (i) (fun x1 => cond (!(n_spec_RecordOk x1)) (false) (n_spec_l7ListL1 a0 n (i + 1)))) (decide ((((a0).length : Int)) ≤ (8)))
def n_spec_l7List (a0 : List Record) : Bool := n_spec_l7ListL1 a0 ((a0).length + 1) 0
set_option maxHeartbeats 4000000 in
set_option maxRecDepth 20000 in
theorem tr_n_spec_l7List (a0 : List Record) (h0 : fitL Record.Fit a0) : Tr Tryd.prog 32 [.ro ⟨false, [.sl 6 (a0.map Record.cells)]⟩] [⟨false, [dB ((n_spec_l7List a0))]⟩] := by
  obtain ⟨r, hr⟩ : ∃ r, n_spec_l7List a0 = r := ⟨_, rfl⟩
  rw [hr]
  rw [n_spec_l7List] at hr
  refine tr_go tabOk Tryd.func32 rfl rfl rfl rfl rfl (ov := [(0, .t ⟨false, [.d (.sl 6 (a0.map Record.cells))]⟩)]) (hv := []) rfl rfl ?_
  refine v_seq ?_
  refine v_reg ?_
  refine sy _ (zas rfl (ec rfl)) rfl rfl ?_
  refine s_end ?_
  refine v_seq ?_
  refine v_seq ?_
  refine v_reg ?_
  refine sy _ (zas rfl (ec rfl)) rfl rfl ?_
  refine s_end ?_
  refine v_block ?_
  refine v_lp (fun (q : Nat × Nat) => [(0, .t ⟨false, [.d (.sl 6 (a0.map Record.cells))]⟩), (3, .t ⟨false, [.d (dI (q.2 : Int))]⟩)]) (fun q => []) (fun q => n_spec_l7ListL1 a0 q.1 q.2 = r ∧ (q.2 ≤ (a0).length) ∧ (q.2 + q.1 = (a0).length + 1)) (fun q => q.1) ((a0).length + 1, (0 : Nat)) ⟨hr, by (try dsimp only); (try simp only [List.length_nil, List.length_cons, List.length_replicate]); first | done | omega | exact Nat.zero_le _, by (try dsimp only); (try simp only [List.length_nil, List.length_cons, List.length_replicate]); first | done | omega | exact Nat.zero_le _⟩ ⟨rfl, rfl, trivial⟩ trivial rfl (fun q hq => ?_)
  obtain ⟨n, i⟩ := q
  obtain ⟨hr, hi1x0, hi1x1⟩ := hq
  dsimp only at hr hi1x0 hi1x1
  show VWp _ _ _ (mk [(0, .t ⟨false, [.d (.sl 6 (a0.map Record.cells))]⟩), (3, .t ⟨false, [.d (dI (i : Int))]⟩)] _ [])
  rcases n with _ | n
  · exfalso; omega
  rw [n_spec_l7ListL1] at hr
  refine v_seq ?_
  refine v_seq ?_
  refine v_reg ?_
  refine sy _ (zmv rfl (e rfl rfl)) rfl rfl ?_
  refine sy _ (zmv rfl (e rfl rfl)) rfl rfl ?_
  have hB1 := (h0).1
  refine sy (.t ⟨false, [.d (dI ((a0).length : Int))]⟩) (zlm tabOk rfl rfl (e rfl rfl) .d) rfl rfl ?_
  refine sy (.t ⟨false, [.d (dB (decide (((i : Int)) < (((a0).length : Int)))))]⟩) (y_bin rfl (e rfl rfl) (e rfl rfl) (fun _ => b_lss) rfl) rfl rfl ?_
  refine s_end ?_
  refine v_cond (e rfl rfl) (fun hb1 => ?_) fun hb1 => ?_
  · replace hr := bf_t hb1 hr
    have hb1p := dec_t hb1
    refine v_skip ?_
    refine v_seq ?_
    refine v_block ?_
    refine v_seq ?_
    refine v_reg ?_
    refine sy _ (zmv rfl (e rfl rfl)) rfl rfl ?_
    refine sy _ (zmv rfl (e rfl rfl)) rfl rfl ?_
    obtain ⟨x1, hx1⟩ : ∃ x, (a0)[i]? = some x := some_of_lt (by omega)
    replace hr := at_step hx1 hr
    have hfx1 := h0.2 _ (List.mem_of_getElem? hx1)
    refine sy (.t ⟨false, [.fe 6 (a0.map Record.cells) i 0]⟩) (zix tabOk rfl rfl rfl (e rfl rfl) (e rfl rfl) (ltm_of_some hx1)) rfl rfl ?_
    refine sy (.t ⟨true, [.d (dS (x1.Name)), .d (dI (x1.Typ)), .d (dI (x1.Ttl)), .d (dI (x1.N)), .d (dS (x1.Host)), .d (dS (x1.Text))]⟩) (zle tabOk rfl (e rfl rfl) (getm hx1) rfl rfl) rfl rfl ?_
    refine sd (.t ⟨false, [.d (dB (n_spec_RecordOk x1))]⟩) (zcd (.t ⟨false, [.d (dB (n_spec_RecordOk x1))]⟩) rfl (tr_n_spec_RecordOk x1 hfx1) (ar (e rfl rfl) (.d (.d (.d (.d (.d (.d .nil)))))) .nil) rfl) rfl rfl rfl rfl ?_
    refine sy (.t ⟨false, [.d (dB (!(n_spec_RecordOk x1)))]⟩) (y_un rfl (e rfl rfl) (fun _ => u_not) rfl) rfl rfl ?_
    refine s_end ?_
    refine v_cond (e rfl rfl) (fun hb2 => ?_) fun hb2 => ?_
    · replace hr := bf_t hb2 hr
      have hn3 := not_t hb2
      refine v_seq ?_
      refine v_reg ?_
      refine sy _ (zas rfl (ec rfl)) rfl rfl ?_
      refine s_end ?_
      refine v_ret ?_
      subst hr
      exact post_ret (rv (.tmp (eg rfl rfl)) rfl (.lf .nil) rfl .nil) (.ro .nil) rfl
    replace hr := bf_f hb2 hr
    have hn4 := not_f hb2
    refine v_skip ?_
    refine blk_norm ?_
    refine v_reg ?_
    refine sy _ (zmv rfl (e rfl rfl)) rfl rfl ?_
    refine sy (.t ⟨false, [.d (dI (i + 1 : Int))]⟩) (y_bin rfl (e rfl rfl) (ec rfl) (fun _ => b_addn (by omega) (by omega)) rfl) rfl rfl ?_
    refine sy _ (zas rfl (e rfl rfl)) rfl rfl ?_
    refine s_end ?_
    exact lp_next (n, i + 1) ⟨hr, by (try simp only [List.length_append, List.length_cons, List.length_nil, List.length_set]); first | done | omega, by (try simp only [List.length_append, List.length_cons, List.length_nil, List.length_set]); first | done | omega⟩ (Nat.lt_succ_self _) ⟨rfl, rfl, trivial⟩ trivial rfl
  replace hr := bf_f hb1 hr
  have hb1p := dec_f hb1
  refine v_exit ?_
  refine then_exit ?_
  refine loop_exit ?_
  refine blk_hit ?_
  refine v_seq ?_
  refine v_reg ?_
  refine sy _ (zmv rfl (e rfl rfl)) rfl rfl ?_
  refine sy (.t ⟨false, [.d (dI ((a0).length : Int))]⟩) (zlm tabOk rfl rfl (e rfl rfl) .d) rfl rfl ?_
  refine sy (.t ⟨false, [.d (dB (decide ((((a0).length : Int)) ≤ (8))))]⟩) (y_bin rfl (e rfl rfl) (ec rfl) (fun _ => b_leq) rfl) rfl rfl ?_
  refine sy _ (zas rfl (e rfl rfl)) rfl rfl ?_
  refine s_end ?_
  refine v_ret ?_
  subst hr
  exact post_ret (rv (.tmp (eg rfl rfl)) rfl (.lf .nil) rfl .nil) (.ro .nil) rfl
def n_spec_ExchOk (a0 : Exch) : Bool := cond (decide ((a0.Try) = (0))) (decide (a0 = (⟨0, 0, 0, 0⟩ : Exch))) (cond (n_spec_l1In a0.Id 0 65535) (cond (n_spec_l1In a0.Addr 0 2147483647) (cond (n_spec_l1In a0.Try 1 4) (decide ((0) ≤ (a0.Due))) (false)) (false)) (false))
set_option maxHeartbeats 4000000 in
set_option maxRecDepth 20000 in
theorem tr_n_spec_ExchOk (a0 : Exch) (h0 : Exch.Fit a0) : Tr Tryd.prog 36 [.ro ⟨true, [dI (a0.Id), dI (a0.Addr), dI (a0.Try), dI (a0.Due)]⟩] [⟨false, [dB ((n_spec_ExchOk a0))]⟩] := by
  obtain ⟨r, hr⟩ : ∃ r, n_spec_ExchOk a0 = r := ⟨_, rfl⟩
  rw [hr]
  rw [n_spec_ExchOk] at hr
  refine tr_go tabOk Tryd.func36 rfl rfl rfl rfl rfl (ov := [(0, .t ⟨true, [.d (dI (a0.Id)), .d (dI (a0.Addr)), .d (dI (a0.Try)), .d (dI (a0.Due))]⟩)]) (hv := []) rfl rfl ?_
  refine v_seq ?_
  refine v_reg ?_
  refine sr 0 (.t ⟨false, [.vp 0 0]⟩) (.var [.d (dI (a0.Id)), .d (dI (a0.Addr)), .d (dI (a0.Try)), .d (dI (a0.Due))]) (zbx rfl (e rfl rfl) rfl rfl rfl) rfl rfl ?_
  refine sy _ (zas rfl (ec rfl)) rfl rfl ?_
  refine s_end ?_
  refine v_seq ?_
  refine v_seq ?_
  refine v_reg ?_
  refine sy (.t ⟨false, [.vp 0 2]⟩) (zfa tabOk rfl rfl rfl (e rfl rfl) rfl rfl) rfl rfl ?_
  refine sy (.t ⟨false, [.d (dI (a0.Try))]⟩) (zlv tabOk rfl (e rfl rfl) rfl rfl rfl) rfl rfl ?_
  refine sy (.t ⟨false, [.d (dB (decide ((a0.Try) = (0))))]⟩) (y_bin rfl (e rfl rfl) (ec rfl) (fun _ => b_eql) rfl) rfl rfl ?_
  refine s_end ?_
  refine v_cond (e rfl rfl) (fun hb1 => ?_) fun hb1 => ?_
  · replace hr := bf_t hb1 hr
    have hb1p := dec_t hb1
    refine v_seq ?_
    refine v_reg ?_
    refine sy (.t ⟨true, [.d (dI (a0.Id)), .d (dI (a0.Addr)), .d (dI (a0.Try)), .d (dI (a0.Due))]⟩) (zlv tabOk rfl (e rfl rfl) rfl rfl rfl) rfl rfl ?_
    refine sy (.t ⟨true, [.d (dI (0)), .d (dI (0)), .d (dI (0)), .d (dI (0))]⟩) (zbd tabOk rfl rfl .nil) rfl rfl ?_
    refine sy (.t ⟨false, [.d (dB (decide (a0 = (⟨0, 0, 0, 0⟩ : Exch))))]⟩) (zeqs35 (a := a0) (b := (⟨0, 0, 0, 0⟩ : Exch)) rfl (e rfl rfl) (e rfl rfl)) rfl rfl ?_
    refine sy _ (zas rfl (e rfl rfl)) rfl rfl ?_
    refine s_end ?_
    refine v_ret ?_
    subst hr
    exact post_ret (rv (.tmp (eg rfl rfl)) rfl (.lf .nil) rfl .nil) (.ro .nil) rfl
  replace hr := bf_f hb1 hr
  have hb1p := dec_f hb1
  refine v_skip ?_
  refine v_seq ?_
  refine v_reg ?_
  refine sy (.t ⟨false, [.vp 0 0]⟩) (zfa tabOk rfl rfl rfl (e rfl rfl) rfl rfl) rfl rfl ?_
  refine sy (.t ⟨false, [.d (dI (a0.Id))]⟩) (zlv tabOk rfl (e rfl rfl) rfl rfl rfl) rfl rfl ?_
  refine sd (.t ⟨false, [.d (dB (n_spec_l1In a0.Id 0 65535))]⟩) (zcd (.t ⟨false, [.d (dB (n_spec_l1In a0.Id 0 65535))]⟩) rfl (tr_n_spec_l1In a0.Id 0 65535) (ar (e rfl rfl) (.d .nil) (ar (ec rfl) (.d .nil) (ar (ec rfl) (.d .nil) .nil))) rfl) rfl rfl rfl rfl ?_
  refine sy _ (zmv rfl (e rfl rfl)) rfl rfl ?_
  rcases Bool.eq_false_or_eq_true (n_spec_l1In a0.Id 0 65535) with hg2 | hg2
  · replace hr := bf_t hg2 hr
    refine gr rfl rfl rfl (eg rfl rfl) hg2 ?_
    refine sy (.t ⟨false, [.vp 0 1]⟩) (zfa tabOk rfl rfl rfl (e rfl rfl) rfl rfl) rfl rfl ?_
    refine gr rfl rfl rfl (eg rfl rfl) hg2 ?_
    refine sy (.t ⟨false, [.d (dI (a0.Addr))]⟩) (zlv tabOk rfl (e rfl rfl) rfl rfl rfl) rfl rfl ?_
    refine gr rfl rfl rfl (eg rfl rfl) hg2 ?_
    refine sd (.t ⟨false, [.d (dB (n_spec_l1In a0.Addr 0 2147483647))]⟩) (zcd (.t ⟨false, [.d (dB (n_spec_l1In a0.Addr 0 2147483647))]⟩) rfl (tr_n_spec_l1In a0.Addr 0 2147483647) (ar (e rfl rfl) (.d .nil) (ar (ec rfl) (.d .nil) (ar (ec rfl) (.d .nil) .nil))) rfl) rfl rfl rfl rfl ?_
    refine sy (.t ⟨false, [.d (dB (n_spec_l1In a0.Addr 0 2147483647))]⟩) (zpt rfl (e rfl rfl) hg2 (e rfl rfl)) rfl rfl ?_
    refine sy _ (zmv rfl (e rfl rfl)) rfl rfl ?_
    rcases Bool.eq_false_or_eq_true (n_spec_l1In a0.Addr 0 2147483647) with hg3 | hg3
    · replace hr := bf_t hg3 hr
      refine gr rfl rfl rfl (eg rfl rfl) hg3 ?_
      refine sy (.t ⟨false, [.vp 0 2]⟩) (zfa tabOk rfl rfl rfl (e rfl rfl) rfl rfl) rfl rfl ?_
      refine gr rfl rfl rfl (eg rfl rfl) hg3 ?_
      refine sy (.t ⟨false, [.d (dI (a0.Try))]⟩) (zlv tabOk rfl (e rfl rfl) rfl rfl rfl) rfl rfl ?_
      refine gr rfl rfl rfl (eg rfl rfl) hg3 ?_
      refine sd (.t ⟨false, [.d (dB (n_spec_l1In a0.Try 1 4))]⟩) (zcd (.t ⟨false, [.d (dB (n_spec_l1In a0.Try 1 4))]⟩) rfl (tr_n_spec_l1In a0.Try 1 4) (ar (e rfl rfl) (.d .nil) (ar (ec rfl) (.d .nil) (ar (ec rfl) (.d .nil) .nil))) rfl) rfl rfl rfl rfl ?_
      refine sy (.t ⟨false, [.d (dB (n_spec_l1In a0.Try 1 4))]⟩) (zpt rfl (e rfl rfl) hg3 (e rfl rfl)) rfl rfl ?_
      refine sy _ (zmv rfl (e rfl rfl)) rfl rfl ?_
      rcases Bool.eq_false_or_eq_true (n_spec_l1In a0.Try 1 4) with hg4 | hg4
      · replace hr := bf_t hg4 hr
        refine gr rfl rfl rfl (eg rfl rfl) hg4 ?_
        refine sy (.t ⟨false, [.vp 0 3]⟩) (zfa tabOk rfl rfl rfl (e rfl rfl) rfl rfl) rfl rfl ?_
        refine gr rfl rfl rfl (eg rfl rfl) hg4 ?_
        refine sy (.t ⟨false, [.d (dI (a0.Due))]⟩) (zlv tabOk rfl (e rfl rfl) rfl rfl rfl) rfl rfl ?_
        refine gr rfl rfl rfl (eg rfl rfl) hg4 ?_
        refine sy (.t ⟨false, [.d (dB (decide ((0) ≤ (a0.Due))))]⟩) (y_bin rfl (e rfl rfl) (ec rfl) (fun _ => b_geq) rfl) rfl rfl ?_
        refine sy (.t ⟨false, [.d (dB (decide ((0) ≤ (a0.Due))))]⟩) (zpt rfl (e rfl rfl) hg4 (e rfl rfl)) rfl rfl ?_
        refine sy _ (zas rfl (e rfl rfl)) rfl rfl ?_
        refine s_end ?_
        refine v_ret ?_
        subst hr
        exact post_ret (rv (.tmp (eg rfl rfl)) rfl (.lf .nil) rfl .nil) (.ro .nil) rfl
      replace hr := bf_f hg4 hr
      refine gs rfl rfl rfl (eg rfl rfl) hg4 rfl ?_
      refine gs rfl rfl rfl (eg rfl rfl) hg4 rfl ?_
      refine gs rfl rfl rfl (eg rfl rfl) hg4 rfl ?_
      refine sy (.t ⟨false, [.d (dB (false))]⟩) (zpf rfl (e rfl rfl) hg4 (ec rfl)) rfl rfl ?_
      refine sy _ (zas rfl (e rfl rfl)) rfl rfl ?_
      refine s_end ?_
      refine v_ret ?_
      subst hr
      exact post_ret (rv (.tmp (eg rfl rfl)) rfl (.lf .nil) rfl .nil) (.ro .nil) rfl
    replace hr := bf_f hg3 hr
    refine gs rfl rfl rfl (eg rfl rfl) hg3 rfl ?_
    refine gs rfl rfl rfl (eg rfl rfl) hg3 rfl ?_
    refine gs rfl rfl rfl (eg rfl rfl) hg3 rfl ?_
    refine sy (.t ⟨false, [.d (dB (false))]⟩) (zpf rfl (e rfl rfl) hg3 (ec rfl)) rfl rfl ?_
    refine sy _ (zmv rfl (e rfl rfl)) rfl rfl ?_
    refine gs rfl rfl rfl (eg rfl rfl) rfl rfl ?_
    refine gs rfl rfl rfl (eg rfl rfl) rfl rfl ?_
    refine gs rfl rfl rfl (eg rfl rfl) rfl rfl ?_
    refine sy (.t ⟨false, [.d (dB (false))]⟩) (zpf rfl (e rfl rfl) rfl (ec rfl)) rfl rfl ?_
    refine sy _ (zas rfl (e rfl rfl)) rfl rfl ?_
    refine s_end ?_
    refine v_ret ?_
    subst hr
    exact post_ret (rv (.tmp (eg rfl rfl)) rfl (.lf .nil) rfl .nil) (.ro .nil) rfl
  replace hr := bf_f hg2 hr
  refine gs rfl rfl rfl (eg rfl rfl) hg2 rfl ?_
  refine gs rfl rfl rfl (eg rfl rfl) hg2 rfl ?_
  refine gs rfl rfl rfl (eg rfl rfl) hg2 rfl ?_
  refine sy (.t ⟨false, [.d (dB (false))]⟩) (zpf rfl (e rfl rfl) hg2 (ec rfl)) rfl rfl ?_
  refine sy _ (zmv rfl (e rfl rfl)) rfl rfl ?_
  refine gs rfl rfl rfl (eg rfl rfl) rfl rfl ?_
  refine gs rfl rfl rfl (eg rfl rfl) rfl rfl ?_
  refine gs rfl rfl rfl (eg rfl rfl) rfl rfl ?_
  refine sy (.t ⟨false, [.d (dB (false))]⟩) (zpf rfl (e rfl rfl) rfl (ec rfl)) rfl rfl ?_
  refine sy _ (zmv rfl (e rfl rfl)) rfl rfl ?_
  refine gs rfl rfl rfl (eg rfl rfl) rfl rfl ?_
  refine gs rfl rfl rfl (eg rfl rfl) rfl rfl ?_
  refine gs rfl rfl rfl (eg rfl rfl) rfl rfl ?_
  refine sy (.t ⟨false, [.d (dB (false))]⟩) (zpf rfl (e rfl rfl) rfl (ec rfl)) rfl rfl ?_
  refine sy _ (zas rfl (e rfl rfl)) rfl rfl ?_
  refine s_end ?_
  refine v_ret ?_
  subst hr
  exact post_ret (rv (.tmp (eg rfl rfl)) rfl (.lf .nil) rfl .nil) (.ro .nil) rfl
def n_impl_TypeText (a0 : Int) : ByteArray := cond (decide ((a0) = (1))) ((⟨#[97, 100, 100, 114]⟩ : ByteArray)) (cond (decide ((a0) = (2))) ((⟨#[115, 101, 114, 118, 101, 114]⟩ : ByteArray)) (cond (decide ((a0) = (5))) ((⟨#[97, 108, 105, 97, 115]⟩ : ByteArray)) (cond (decide ((a0) = (6))) ((⟨#[115, 116, 97, 114, 116]⟩ : ByteArray)) (cond (decide ((a0) = (16))) ((⟨#[116, 101, 120, 116]⟩ : ByteArray)) ((⟨#[]⟩ : ByteArray))))))
set_option maxHeartbeats 4000000 in
set_option maxRecDepth 20000 in
theorem tr_n_impl_TypeText (a0 : Int) : Tr Tryd.prog 73 [.ro ⟨false, [dI (a0)]⟩] [⟨false, [dS ((n_impl_TypeText a0))]⟩] := by
  obtain ⟨r, hr⟩ : ∃ r, n_impl_TypeText a0 = r := ⟨_, rfl⟩
  rw [hr]
  rw [n_impl_TypeText] at hr
  refine tr_go tabOk Tryd.func73 rfl rfl rfl rfl rfl (ov := [(0, .t ⟨false, [.d (dI (a0))]⟩)]) (hv := []) rfl rfl ?_
  refine v_seq ?_
  refine v_reg ?_
  refine sy _ (zas rfl (ec rfl)) rfl rfl ?_
  refine s_end ?_
  refine v_seq ?_
  refine v_seq ?_
  refine v_reg ?_
  refine sy _ (zmv rfl (e rfl rfl)) rfl rfl ?_
  refine s_end ?_
  refine v_block ?_
  refine v_seq ?_
  refine v_reg ?_
  refine sy (.t ⟨false, [.d (dB (decide ((a0) = (1))))]⟩) (y_bin rfl (e rfl rfl) (ec rfl) (fun _ => b_eql) rfl) rfl rfl ?_
  refine sy _ (zas rfl (e rfl rfl)) rfl rfl ?_
  refine s_end ?_
  refine v_cond (e rfl rfl) (fun hb1 => ?_) fun hb1 => ?_
  · replace hr := bf_t hb1 hr
    have hb1p := dec_t hb1
    refine v_seq ?_
    refine v_reg ?_
    refine sy _ (zas rfl (ec rfl)) rfl rfl ?_
    refine s_end ?_
    refine v_ret ?_
    subst hr
    exact post_ret (rv (.tmp (eg rfl rfl)) rfl (.lf .nil) rfl .nil) (.ro .nil) rfl
  replace hr := bf_f hb1 hr
  have hb1p := dec_f hb1
  refine v_seq ?_
  refine v_reg ?_
  refine sy (.t ⟨false, [.d (dB (decide ((a0) = (2))))]⟩) (y_bin rfl (e rfl rfl) (ec rfl) (fun _ => b_eql) rfl) rfl rfl ?_
  refine sy _ (zas rfl (e rfl rfl)) rfl rfl ?_
  refine s_end ?_
  refine v_cond (e rfl rfl) (fun hb2 => ?_) fun hb2 => ?_
  · replace hr := bf_t hb2 hr
    have hb2p := dec_t hb2
    refine v_seq ?_
    refine v_reg ?_
    refine sy _ (zas rfl (ec rfl)) rfl rfl ?_
    refine s_end ?_
    refine v_ret ?_
    subst hr
    exact post_ret (rv (.tmp (eg rfl rfl)) rfl (.lf .nil) rfl .nil) (.ro .nil) rfl
  replace hr := bf_f hb2 hr
  have hb2p := dec_f hb2
  refine v_seq ?_
  refine v_reg ?_
  refine sy (.t ⟨false, [.d (dB (decide ((a0) = (5))))]⟩) (y_bin rfl (e rfl rfl) (ec rfl) (fun _ => b_eql) rfl) rfl rfl ?_
  refine sy _ (zas rfl (e rfl rfl)) rfl rfl ?_
  refine s_end ?_
  refine v_cond (e rfl rfl) (fun hb3 => ?_) fun hb3 => ?_
  · replace hr := bf_t hb3 hr
    have hb3p := dec_t hb3
    refine v_seq ?_
    refine v_reg ?_
    refine sy _ (zas rfl (ec rfl)) rfl rfl ?_
    refine s_end ?_
    refine v_ret ?_
    subst hr
    exact post_ret (rv (.tmp (eg rfl rfl)) rfl (.lf .nil) rfl .nil) (.ro .nil) rfl
  replace hr := bf_f hb3 hr
  have hb3p := dec_f hb3
  refine v_seq ?_
  refine v_reg ?_
  refine sy (.t ⟨false, [.d (dB (decide ((a0) = (6))))]⟩) (y_bin rfl (e rfl rfl) (ec rfl) (fun _ => b_eql) rfl) rfl rfl ?_
  refine sy _ (zas rfl (e rfl rfl)) rfl rfl ?_
  refine s_end ?_
  refine v_cond (e rfl rfl) (fun hb4 => ?_) fun hb4 => ?_
  · replace hr := bf_t hb4 hr
    have hb4p := dec_t hb4
    refine v_seq ?_
    refine v_reg ?_
    refine sy _ (zas rfl (ec rfl)) rfl rfl ?_
    refine s_end ?_
    refine v_ret ?_
    subst hr
    exact post_ret (rv (.tmp (eg rfl rfl)) rfl (.lf .nil) rfl .nil) (.ro .nil) rfl
  replace hr := bf_f hb4 hr
  have hb4p := dec_f hb4
  refine v_seq ?_
  refine v_reg ?_
  refine sy (.t ⟨false, [.d (dB (decide ((a0) = (16))))]⟩) (y_bin rfl (e rfl rfl) (ec rfl) (fun _ => b_eql) rfl) rfl rfl ?_
  refine sy _ (zas rfl (e rfl rfl)) rfl rfl ?_
  refine s_end ?_
  refine v_cond (e rfl rfl) (fun hb5 => ?_) fun hb5 => ?_
  · replace hr := bf_t hb5 hr
    have hb5p := dec_t hb5
    refine v_seq ?_
    refine v_reg ?_
    refine sy _ (zas rfl (ec rfl)) rfl rfl ?_
    refine s_end ?_
    refine v_ret ?_
    subst hr
    exact post_ret (rv (.tmp (eg rfl rfl)) rfl (.lf .nil) rfl .nil) (.ro .nil) rfl
  replace hr := bf_f hb5 hr
  have hb5p := dec_f hb5
  refine v_skip ?_
  refine blk_norm ?_
  refine v_seq ?_
  refine v_reg ?_
  refine sy _ (zas rfl (ec rfl)) rfl rfl ?_
  refine s_end ?_
  refine v_ret ?_
  subst hr
  exact post_ret (rv (.tmp (eg rfl rfl)) rfl (.lf .nil) rfl .nil) (.ro .nil) rfl
set_option maxHeartbeats 4000000 in
theorem fitx_n_impl_TypeText (a0 : Int) : fitS (n_impl_TypeText a0) := by
  obtain ⟨r, hr⟩ : ∃ r, n_impl_TypeText a0 = r := ⟨_, rfl⟩
  rw [hr]
  rw [n_impl_TypeText] at hr
  rcases Bool.eq_false_or_eq_true (decide ((a0) = (1))) with hb1 | hb1
  · replace hr := bf_t hb1 hr
    have hb1p := dec_t hb1
    subst hr
    exact (fitS_lit (⟨#[97, 100, 100, 114]⟩ : ByteArray) (Nat.le_of_ble_eq_true rfl))
  replace hr := bf_f hb1 hr
  have hb1p := dec_f hb1
  rcases Bool.eq_false_or_eq_true (decide ((a0) = (2))) with hb2 | hb2
  · replace hr := bf_t hb2 hr
    have hb2p := dec_t hb2
    subst hr
    exact (fitS_lit (⟨#[115, 101, 114, 118, 101, 114]⟩ : ByteArray) (Nat.le_of_ble_eq_true rfl))
  replace hr := bf_f hb2 hr
  have hb2p := dec_f hb2
  rcases Bool.eq_false_or_eq_true (decide ((a0) = (5))) with hb3 | hb3
  · replace hr := bf_t hb3 hr
    have hb3p := dec_t hb3
    subst hr
    exact (fitS_lit (⟨#[97, 108, 105, 97, 115]⟩ : ByteArray) (Nat.le_of_ble_eq_true rfl))
  replace hr := bf_f hb3 hr
  have hb3p := dec_f hb3
  rcases Bool.eq_false_or_eq_true (decide ((a0) = (6))) with hb4 | hb4
  · replace hr := bf_t hb4 hr
    have hb4p := dec_t hb4
    subst hr
    exact (fitS_lit (⟨#[115, 116, 97, 114, 116]⟩ : ByteArray) (Nat.le_of_ble_eq_true rfl))
  replace hr := bf_f hb4 hr
  have hb4p := dec_f hb4
  rcases Bool.eq_false_or_eq_true (decide ((a0) = (16))) with hb5 | hb5
  · replace hr := bf_t hb5 hr
    have hb5p := dec_t hb5
    subst hr
    exact (fitS_lit (⟨#[116, 101, 120, 116]⟩ : ByteArray) (Nat.le_of_ble_eq_true rfl))
  replace hr := bf_f hb5 hr
  have hb5p := dec_f hb5
  subst hr
  exact (fitS_lit (⟨#[]⟩ : ByteArray) (Nat.le_of_ble_eq_true rfl))
def n_impl_TypeOk (a0 : Int) : Bool := bindv (n_impl_TypeText a0) (fun v1 => decide ((v1) ≠ ((⟨#[]⟩ : ByteArray))))
set_option maxHeartbeats 4000000 in
set_option maxRecDepth 20000 in
theorem tr_n_impl_TypeOk (a0 : Int) : Tr Tryd.prog 87 [.ro ⟨false, [dI (a0)]⟩] [⟨false, [dB ((n_impl_TypeOk a0))]⟩] := by
  obtain ⟨r, hr⟩ : ∃ r, n_impl_TypeOk a0 = r := ⟨_, rfl⟩
  rw [hr]
  rw [n_impl_TypeOk] at hr
  refine tr_go tabOk Tryd.func87 rfl rfl rfl rfl rfl (ov := [(0, .t ⟨false, [.d (dI (a0))]⟩)]) (hv := []) rfl rfl ?_
  refine v_seq ?_
  refine v_reg ?_
  refine sy _ (zas rfl (ec rfl)) rfl rfl ?_
  refine s_end ?_
  refine v_seq ?_
  refine v_reg ?_
  refine sy _ (zmv rfl (e rfl rfl)) rfl rfl ?_
  obtain ⟨v1, ev1⟩ : ∃ v : ByteArray, v = n_impl_TypeText a0 := ⟨_, rfl⟩
  replace hr := bv_step ev1 hr
  have hfv1 : fitS v1 := by rw [ev1]; exact (fitx_n_impl_TypeText a0)
  refine sd (.t ⟨false, [.d (dS (v1))]⟩) (zcd (.t ⟨false, [.d (dS (v1))]⟩) rfl (by rw [ev1]; exact (tr_n_impl_TypeText a0) : Tr Tryd.prog 73 _ [⟨false, [dS (v1)]⟩]) (ar (e rfl rfl) (.d .nil) .nil) rfl) rfl rfl rfl rfl ?_
  refine sy (.t ⟨false, [.d (dB (decide ((v1) ≠ ((⟨#[]⟩ : ByteArray)))))]⟩) (y_bin rfl (e rfl rfl) (ec rfl) (fun _ => b_sneq) rfl) rfl rfl ?_
  refine sy _ (zas rfl (e rfl rfl)) rfl rfl ?_
  refine s_end ?_
  refine v_ret ?_
  subst hr
  exact post_ret (rv (.tmp (eg rfl rfl)) rfl (.lf .nil) rfl .nil) (.ro .nil) rfl
def n_impl_QuestOk (a0 : Quest) : Bool := cond (n_spec_NameOk a0.Name) (n_impl_TypeOk a0.Typ) (false)
set_option maxHeartbeats 4000000 in
set_option maxRecDepth 20000 in
theorem tr_n_impl_QuestOk (a0 : Quest) (h0 : Quest.Fit a0) : Tr Tryd.prog 42 [.ro ⟨true, [dS (a0.Name), dI (a0.Typ)]⟩] [⟨false, [dB ((n_impl_QuestOk a0))]⟩] := by
  obtain ⟨r, hr⟩ : ∃ r, n_impl_QuestOk a0 = r := ⟨_, rfl⟩
  rw [hr]
  rw [n_impl_QuestOk] at hr
  refine tr_go tabOk Tryd.func42 rfl rfl rfl rfl rfl (ov := [(0, .t ⟨true, [.d (dS (a0.Name)), .d (dI (a0.Typ))]⟩)]) (hv := []) rfl rfl ?_
  refine v_seq ?_
  refine v_reg ?_
  refine sr 0 (.t ⟨false, [.vp 0 0]⟩) (.var [.d (dS (a0.Name)), .d (dI (a0.Typ))]) (zbx rfl (e rfl rfl) rfl rfl rfl) rfl rfl ?_
  refine sy _ (zas rfl (ec rfl)) rfl rfl ?_
  refine s_end ?_
  refine v_seq ?_
  refine v_reg ?_
  refine sy (.t ⟨false, [.vp 0 0]⟩) (zfa tabOk rfl rfl rfl (e rfl rfl) rfl rfl) rfl rfl ?_
  refine sy (.t ⟨false, [.d (dS (a0.Name))]⟩) (zlv tabOk rfl (e rfl rfl) rfl rfl rfl) rfl rfl ?_
  refine sd (.t ⟨false, [.d (dB (n_spec_NameOk a0.Name))]⟩) (zcd (.t ⟨false, [.d (dB (n_spec_NameOk a0.Name))]⟩) rfl (tr2_n_impl_NameOk a0.Name h0.Name) (ar (e rfl rfl) (.d .nil) .nil) rfl) rfl rfl rfl rfl ?_
  refine sy _ (zmv rfl (e rfl rfl)) rfl rfl ?_
  rcases Bool.eq_false_or_eq_true (n_spec_NameOk a0.Name) with hg1 | hg1
  · replace hr := bf_t hg1 hr
    refine gr rfl rfl rfl (eg rfl rfl) hg1 ?_
    refine sy (.t ⟨false, [.vp 0 1]⟩) (zfa tabOk rfl rfl rfl (e rfl rfl) rfl rfl) rfl rfl ?_
    refine gr rfl rfl rfl (eg rfl rfl) hg1 ?_
    refine sy (.t ⟨false, [.d (dI (a0.Typ))]⟩) (zlv tabOk rfl (e rfl rfl) rfl rfl rfl) rfl rfl ?_
    refine gr rfl rfl rfl (eg rfl rfl) hg1 ?_
    refine sd (.t ⟨false, [.d (dB (n_impl_TypeOk a0.Typ))]⟩) (zcd (.t ⟨false, [.d (dB (n_impl_TypeOk a0.Typ))]⟩) rfl (tr_n_impl_TypeOk a0.Typ) (ar (e rfl rfl) (.d .nil) .nil) rfl) rfl rfl rfl rfl ?_
    refine sy (.t ⟨false, [.d (dB (n_impl_TypeOk a0.Typ))]⟩) (zpt rfl (e rfl rfl) hg1 (e rfl rfl)) rfl rfl ?_
    refine sy _ (zas rfl (e rfl rfl)) rfl rfl ?_
    refine s_end ?_
    refine v_ret ?_
    subst hr
    exact post_ret (rv (.tmp (eg rfl rfl)) rfl (.lf .nil) rfl .nil) (.ro .nil) rfl
  replace hr := bf_f hg1 hr
  refine gs rfl rfl rfl (eg rfl rfl) hg1 rfl ?_
  refine gs rfl rfl rfl (eg rfl rfl) hg1 rfl ?_
  refine gs rfl rfl rfl (eg rfl rfl) hg1 rfl ?_
  refine sy (.t ⟨false, [.d (dB (false))]⟩) (zpf rfl (e rfl rfl) hg1 (ec rfl)) rfl rfl ?_
  refine sy _ (zas rfl (e rfl rfl)) rfl rfl ?_
  refine s_end ?_
  refine v_ret ?_
  subst hr
  exact post_ret (rv (.tmp (eg rfl rfl)) rfl (.lf .nil) rfl .nil) (.ro .nil) rfl
def n_impl_isTextL1 (a0 : ByteArray) : Nat → Nat → Bool
  | 0, _ => default
  | n + 1, z6 => cond (decide (((z6 : Int)) < ((a0.size : Int)))) (cond (decide ((bt a0 z6) < (33))) (false) (cond (decide ((126) < (bt a0 z6))) (false) (n_impl_isTextL1 a0 n (z6 + 1)))) (decide (((a0.size : Int)) ≤ (12)))
def n_impl_isText (a0 : ByteArray) : Bool := n_impl_isTextL1 a0 (a0.size + 1) 0
set_option maxHeartbeats 4000000 in
set_option maxRecDepth 20000 in
theorem tr_n_impl_isText (a0 : ByteArray) (h0 : fitS a0) : Tr Tryd.prog 123 [.ro ⟨false, [dS (a0)]⟩] [⟨false, [dB ((n_impl_isText a0))]⟩] := by
  obtain ⟨r, hr⟩ : ∃ r, n_impl_isText a0 = r := ⟨_, rfl⟩
  rw [hr]
  rw [n_impl_isText] at hr
  refine tr_go tabOk Tryd.func123 rfl rfl rfl rfl rfl (ov := [(0, .t ⟨false, [.d (dS (a0))]⟩)]) (hv := []) rfl rfl ?_
  refine v_seq ?_
  refine v_reg ?_
  refine sy _ (zas rfl (ec rfl)) rfl rfl ?_
  refine s_end ?_
  refine v_seq ?_
  refine v_seq ?_
  refine v_reg ?_
  refine sy _ (zmv rfl (e rfl rfl)) rfl rfl ?_
  have hB1 : (a0).size ≤ 2097152 := h0
  refine sy (.t ⟨false, [.d (dI (a0.size : Int))]⟩) (zls tabOk rfl rfl (e rfl rfl)) rfl rfl ?_
  refine sy _ (zmv rfl (ec rfl)) rfl rfl ?_
  refine s_end ?_
  refine v_block ?_
  refine v_lp (fun (q : Nat × Nat) => [(0, .t ⟨false, [.d (dS (a0))]⟩), (5, .t ⟨false, [.d (dI (a0.size : Int))]⟩), (6, .t ⟨false, [.d (dI (q.2 : Int))]⟩)]) (fun q => []) (fun q => n_impl_isTextL1 a0 q.1 q.2 = r ∧ (q.2 ≤ a0.size) ∧ (q.2 + q.1 = a0.size + 1)) (fun q => q.1) (a0.size + 1, (0 : Nat)) ⟨hr, by (try dsimp only); (try simp only [List.length_nil, List.length_cons, List.length_replicate]); first | done | omega | exact Nat.zero_le _, by (try dsimp only); (try simp only [List.length_nil, List.length_cons, List.length_replicate]); first | done | omega | exact Nat.zero_le _⟩ ⟨rfl, rfl, rfl, trivial⟩ trivial rfl (fun q hq => ?_)
  obtain ⟨n, z6⟩ := q
  obtain ⟨hr, hi1x0, hi1x1⟩ := hq
  dsimp only at hr hi1x0 hi1x1
  show VWp _ _ _ (mk [(0, .t ⟨false, [.d (dS (a0))]⟩), (5, .t ⟨false, [.d (dI (a0.size : Int))]⟩), (6, .t ⟨false, [.d (dI (z6 : Int))]⟩)] _ [])
  rcases n with _ | n
  · exfalso; omega
  rw [n_impl_isTextL1] at hr
  refine v_seq ?_
  refine v_reg ?_
  refine sy (.t ⟨false, [.d (dB (decide (((z6 : Int)) < ((a0.size : Int)))))]⟩) (y_bin rfl (e rfl rfl) (e rfl rfl) (fun _ => b_lss) rfl) rfl rfl ?_
  refine s_end ?_
  refine v_seq ?_
  refine v_cond (e rfl rfl) (fun hb1 => ?_) fun hb1 => ?_
  · replace hr := bf_t hb1 hr
    have hb1p := dec_t hb1
    refine v_skip ?_
    refine v_seq ?_
    refine v_block ?_
    refine v_seq ?_
    refine v_reg ?_
    refine sy _ (zmv rfl (e rfl rfl)) rfl rfl ?_
    refine sy _ (zas rfl (e rfl rfl)) rfl rfl ?_
    refine s_end ?_
    refine v_seq ?_
    refine v_reg ?_
    refine sy _ (zmv rfl (e rfl rfl)) rfl rfl ?_
    refine sy _ (zmv rfl (e rfl rfl)) rfl rfl ?_
    have hy2 : z6 < (a0).size := by omega
    have hy2g := @bt_ge a0 z6; have hy2l := @bt_lt a0 z6
    refine sy (.t ⟨false, [.d (.lf (.int .u8 (bt a0 z6)))]⟩) (zby tabOk rfl rfl (e rfl rfl) (e rfl rfl) rfl hy2) rfl rfl ?_
    refine sy (.t ⟨false, [.d (dB (decide ((bt a0 z6) < (33))))]⟩) (y_bin rfl (e rfl rfl) (ec rfl) (fun _ => b_lss) rfl) rfl rfl ?_
    refine sy _ (zmv rfl (e rfl rfl)) rfl rfl ?_
    rcases Bool.eq_false_or_eq_true (decide ((bt a0 z6) < (33))) with hg3 | hg3
    · replace hr := bf_t hg3 hr
      have hg3p := dec_t hg3
      refine gs rfl rfl rfl (eg rfl rfl) hg3 rfl ?_
      refine gs rfl rfl rfl (eg rfl rfl) hg3 rfl ?_
      refine gs rfl rfl rfl (eg rfl rfl) hg3 rfl ?_
      refine gs rfl rfl rfl (eg rfl rfl) hg3 rfl ?_
      refine sy (.t ⟨false, [.d (dB (true))]⟩) (zpt rfl (e rfl rfl) hg3 (ec rfl)) rfl rfl ?_
      refine s_end ?_
      refine v_cT (e rfl rfl) rfl ?_
      refine v_seq ?_
      refine v_reg ?_
      refine sy _ (zas rfl (ec rfl)) rfl rfl ?_
      refine s_end ?_
      refine v_ret ?_
      subst hr
      exact post_ret (rv (.tmp (eg rfl rfl)) rfl (.lf .nil) rfl .nil) (.ro .nil) rfl
    replace hr := bf_f hg3 hr
    have hg3p := dec_f hg3
    refine gr rfl rfl rfl (eg rfl rfl) hg3 ?_
    refine sy _ (zmv rfl (e rfl rfl)) rfl rfl ?_
    refine gr rfl rfl rfl (eg rfl rfl) hg3 ?_
    refine sy _ (zmv rfl (e rfl rfl)) rfl rfl ?_
    refine gr rfl rfl rfl (eg rfl rfl) hg3 ?_
    have hy4 : z6 < (a0).size := by omega
    have hy4g := @bt_ge a0 z6; have hy4l := @bt_lt a0 z6
    refine sy (.t ⟨false, [.d (.lf (.int .u8 (bt a0 z6)))]⟩) (zby tabOk rfl rfl (e rfl rfl) (e rfl rfl) rfl hy4) rfl rfl ?_
    refine gr rfl rfl rfl (eg rfl rfl) hg3 ?_
    refine sy (.t ⟨false, [.d (dB (decide ((126) < (bt a0 z6))))]⟩) (y_bin rfl (e rfl rfl) (ec rfl) (fun _ => b_gtr) rfl) rfl rfl ?_
    refine sy (.t ⟨false, [.d (dB (decide ((126) < (bt a0 z6))))]⟩) (zpf rfl (e rfl rfl) hg3 (e rfl rfl)) rfl rfl ?_
    refine s_end ?_
    refine v_cond (e rfl rfl) (fun hb5 => ?_) fun hb5 => ?_
    · replace hr := bf_t hb5 hr
      have hb5p := dec_t hb5
      refine v_seq ?_
      refine v_reg ?_
      refine sy _ (zas rfl (ec rfl)) rfl rfl ?_
      refine s_end ?_
      refine v_ret ?_
      subst hr
      exact post_ret (rv (.tmp (eg rfl rfl)) rfl (.lf .nil) rfl .nil) (.ro .nil) rfl
    replace hr := bf_f hb5 hr
    have hb5p := dec_f hb5
    refine v_skip ?_
    refine blk_norm ?_
    refine v_reg ?_
    refine sy (.t ⟨false, [.d (dI (z6 + 1 : Int))]⟩) (y_bin rfl (e rfl rfl) (ec rfl) (fun _ => b_addn (by omega) (by omega)) rfl) rfl rfl ?_
    refine sy _ (zmv rfl (e rfl rfl)) rfl rfl ?_
    refine s_end ?_
    exact lp_next (n, z6 + 1) ⟨hr, by (try simp only [List.length_append, List.length_cons, List.length_nil, List.length_set]); first | done | omega, by (try simp only [List.length_append, List.length_cons, List.length_nil, List.length_set]); first | done | omega⟩ (Nat.lt_succ_self _) ⟨rfl, rfl, rfl, trivial⟩ trivial rfl
  replace hr := bf_f hb1 hr
  have hb1p := dec_f hb1
  refine v_exit ?_
  refine then_exit ?_
  refine loop_exit ?_
  refine blk_hit ?_
  refine v_seq ?_
  refine v_reg ?_
  refine sy _ (zmv rfl (e rfl rfl)) rfl rfl ?_
  refine sy (.t ⟨false, [.d (dI (a0.size : Int))]⟩) (zls tabOk rfl rfl (e rfl rfl)) rfl rfl ?_
  refine sy (.t ⟨false, [.d (dB (decide (((a0.size : Int)) ≤ (12))))]⟩) (y_bin rfl (e rfl rfl) (ec rfl) (fun _ => b_leq) rfl) rfl rfl ?_
  refine sy _ (zas rfl (e rfl rfl)) rfl rfl ?_
  refine s_end ?_
  refine v_ret ?_
  subst hr
  exact post_ret (rv (.tmp (eg rfl rfl)) rfl (.lf .nil) rfl .nil) (.ro .nil) rfl
def n_impl_RecordOk (a0 : Record) : Bool := cond (!(n_spec_NameOk a0.Name)) (false) (cond (!(n_impl_isTtl a0.Ttl)) (false) (cond (decide ((a0.Typ) = (1))) (cond (n_impl_isFour a0.N) (cond (decide ((a0.Host) = ((⟨#[]⟩ : ByteArray)))) (decide ((a0.Text) = ((⟨#[]⟩ : ByteArray)))) (false)) (false)) (cond (decide ((a0.Typ) = (2))) (cond (decide ((a0.N) = (0))) (cond (n_spec_NameOk a0.Host) (decide ((a0.Text) = ((⟨#[]⟩ : ByteArray)))) (false)) (false)) (cond (decide ((a0.Typ) = (5))) (cond (decide ((a0.N) = (0))) (cond (n_spec_NameOk a0.Host) (decide ((a0.Text) = ((⟨#[]⟩ : ByteArray)))) (false)) (false)) (cond (decide ((a0.Typ) = (6))) (cond (n_impl_isTtl a0.N) (cond (n_spec_NameOk a0.Host) (decide ((a0.Text) = ((⟨#[]⟩ : ByteArray)))) (false)) (false)) (cond (decide ((a0.Typ) = (16))) (cond (decide ((a0.N) = (0))) (cond (decide ((a0.Host) = ((⟨#[]⟩ : ByteArray)))) (n_impl_isText a0.Text) (false)) (false)) (false)))))))
set_option maxHeartbeats 4000000 in
set_option maxRecDepth 20000 in
theorem tr_n_impl_RecordOk (a0 : Record) (h0 : Record.Fit a0) : Tr Tryd.prog 90 [.ro ⟨true, [dS (a0.Name), dI (a0.Typ), dI (a0.Ttl), dI (a0.N), dS (a0.Host), dS (a0.Text)]⟩] [⟨false, [dB ((n_impl_RecordOk a0))]⟩] := by
  obtain ⟨r, hr⟩ : ∃ r, n_impl_RecordOk a0 = r := ⟨_, rfl⟩
  rw [hr]
  rw [n_impl_RecordOk] at hr
  refine tr_go tabOk Tryd.func90 rfl rfl rfl rfl rfl (ov := [(0, .t ⟨true, [.d (dS (a0.Name)), .d (dI (a0.Typ)), .d (dI (a0.Ttl)), .d (dI (a0.N)), .d (dS (a0.Host)), .d (dS (a0.Text))]⟩)]) (hv := []) rfl rfl ?_
  refine v_seq ?_
  refine v_reg ?_
  refine sr 0 (.t ⟨false, [.vp 0 0]⟩) (.var [.d (dS (a0.Name)), .d (dI (a0.Typ)), .d (dI (a0.Ttl)), .d (dI (a0.N)), .d (dS (a0.Host)), .d (dS (a0.Text))]) (zbx rfl (e rfl rfl) rfl rfl rfl) rfl rfl ?_
  refine sy _ (zas rfl (ec rfl)) rfl rfl ?_
  refine s_end ?_
  refine v_seq ?_
  refine v_seq ?_
  refine v_reg ?_
  refine sy (.t ⟨false, [.vp 0 0]⟩) (zfa tabOk rfl rfl rfl (e rfl rfl) rfl rfl) rfl rfl ?_
  refine sy (.t ⟨false, [.d (dS (a0.Name))]⟩) (zlv tabOk rfl (e rfl rfl) rfl rfl rfl) rfl rfl ?_
  refine sd (.t ⟨false, [.d (dB (n_spec_NameOk a0.Name))]⟩) (zcd (.t ⟨false, [.d (dB (n_spec_NameOk a0.Name))]⟩) rfl (tr2_n_impl_NameOk a0.Name h0.Name) (ar (e rfl rfl) (.d .nil) .nil) rfl) rfl rfl rfl rfl ?_
  refine sy (.t ⟨false, [.d (dB (!(n_spec_NameOk a0.Name)))]⟩) (y_un rfl (e rfl rfl) (fun _ => u_not) rfl) rfl rfl ?_
  refine sy _ (zmv rfl (e rfl rfl)) rfl rfl ?_
  rcases Bool.eq_false_or_eq_true (!(n_spec_NameOk a0.Name)) with hg1 | hg1
  · replace hr := bf_t hg1 hr
    have hn2 := not_t hg1
    refine gs rfl rfl rfl (eg rfl rfl) hg1 rfl ?_
    refine gs rfl rfl rfl (eg rfl rfl) hg1 rfl ?_
    refine gs rfl rfl rfl (eg rfl rfl) hg1 rfl ?_
    refine gs rfl rfl rfl (eg rfl rfl) hg1 rfl ?_
    refine sy (.t ⟨false, [.d (dB (true))]⟩) (zpt rfl (e rfl rfl) hg1 (ec rfl)) rfl rfl ?_
    refine s_end ?_
    refine v_cT (e rfl rfl) rfl ?_
    refine v_seq ?_
    refine v_reg ?_
    refine sy _ (zas rfl (ec rfl)) rfl rfl ?_
    refine s_end ?_
    refine v_ret ?_
    subst hr
    exact post_ret (rv (.tmp (eg rfl rfl)) rfl (.lf .nil) rfl .nil) (.ro .nil) rfl
  replace hr := bf_f hg1 hr
  have hn3 := not_f hg1
  refine gr rfl rfl rfl (eg rfl rfl) hg1 ?_
  refine sy (.t ⟨false, [.vp 0 2]⟩) (zfa tabOk rfl rfl rfl (e rfl rfl) rfl rfl) rfl rfl ?_
  refine gr rfl rfl rfl (eg rfl rfl) hg1 ?_
  refine sy (.t ⟨false, [.d (dI (a0.Ttl))]⟩) (zlv tabOk rfl (e rfl rfl) rfl rfl rfl) rfl rfl ?_
  refine gr rfl rfl rfl (eg rfl rfl) hg1 ?_
  refine sd (.t ⟨false, [.d (dB (n_impl_isTtl a0.Ttl))]⟩) (zcd (.t ⟨false, [.d (dB (n_impl_isTtl a0.Ttl))]⟩) rfl (tr_n_impl_isTtl a0.Ttl) (ar (e rfl rfl) (.d .nil) .nil) rfl) rfl rfl rfl rfl ?_
  refine gr rfl rfl rfl (eg rfl rfl) hg1 ?_
  refine sy (.t ⟨false, [.d (dB (!(n_impl_isTtl a0.Ttl)))]⟩) (y_un rfl (e rfl rfl) (fun _ => u_not) rfl) rfl rfl ?_
  refine sy (.t ⟨false, [.d (dB (!(n_impl_isTtl a0.Ttl)))]⟩) (zpf rfl (e rfl rfl) hg1 (e rfl rfl)) rfl rfl ?_
  refine s_end ?_
  refine v_cond (e rfl rfl) (fun hb4 => ?_) fun hb4 => ?_
  · replace hr := bf_t hb4 hr
    have hn5 := not_t hb4
    refine v_seq ?_
    refine v_reg ?_
    refine sy _ (zas rfl (ec rfl)) rfl rfl ?_
    refine s_end ?_
    refine v_ret ?_
    subst hr
    exact post_ret (rv (.tmp (eg rfl rfl)) rfl (.lf .nil) rfl .nil) (.ro .nil) rfl
  replace hr := bf_f hb4 hr
  have hn6 := not_f hb4
  refine v_skip ?_
  refine v_seq ?_
  refine v_seq ?_
  refine v_reg ?_
  refine sy (.t ⟨false, [.vp 0 1]⟩) (zfa tabOk rfl rfl rfl (e rfl rfl) rfl rfl) rfl rfl ?_
  refine sy (.t ⟨false, [.d (dI (a0.Typ))]⟩) (zlv tabOk rfl (e rfl rfl) rfl rfl rfl) rfl rfl ?_
  refine s_end ?_
  refine v_block ?_
  refine v_seq ?_
  refine v_reg ?_
  refine sy (.t ⟨false, [.d (dB (decide ((a0.Typ) = (1))))]⟩) (y_bin rfl (e rfl rfl) (ec rfl) (fun _ => b_eql) rfl) rfl rfl ?_
  refine sy _ (zas rfl (e rfl rfl)) rfl rfl ?_
  refine s_end ?_
  refine v_cond (e rfl rfl) (fun hb7 => ?_) fun hb7 => ?_
  · replace hr := bf_t hb7 hr
    have hb7p := dec_t hb7
    refine v_seq ?_
    refine v_reg ?_
    refine sy (.t ⟨false, [.vp 0 3]⟩) (zfa tabOk rfl rfl rfl (e rfl rfl) rfl rfl) rfl rfl ?_
    refine sy (.t ⟨false, [.d (dI (a0.N))]⟩) (zlv tabOk rfl (e rfl rfl) rfl rfl rfl) rfl rfl ?_
    refine sd (.t ⟨false, [.d (dB (n_impl_isFour a0.N))]⟩) (zcd (.t ⟨false, [.d (dB (n_impl_isFour a0.N))]⟩) rfl (tr_n_impl_isFour a0.N) (ar (e rfl rfl) (.d .nil) .nil) rfl) rfl rfl rfl rfl ?_
    refine sy _ (zmv rfl (e rfl rfl)) rfl rfl ?_
    rcases Bool.eq_false_or_eq_true (n_impl_isFour a0.N) with hg8 | hg8
    · replace hr := bf_t hg8 hr
      refine gr rfl rfl rfl (eg rfl rfl) hg8 ?_
      refine sy (.t ⟨false, [.vp 0 4]⟩) (zfa tabOk rfl rfl rfl (e rfl rfl) rfl rfl) rfl rfl ?_
      refine gr rfl rfl rfl (eg rfl rfl) hg8 ?_
      refine sy (.t ⟨false, [.d (dS (a0.Host))]⟩) (zlv tabOk rfl (e rfl rfl) rfl rfl rfl) rfl rfl ?_
      refine gr rfl rfl rfl (eg rfl rfl) hg8 ?_
      refine sy (.t ⟨false, [.d (dB (decide ((a0.Host) = ((⟨#[]⟩ : ByteArray)))))]⟩) (y_bin rfl (e rfl rfl) (ec rfl) (fun _ => b_seql) rfl) rfl rfl ?_
      refine sy (.t ⟨false, [.d (dB (decide ((a0.Host) = ((⟨#[]⟩ : ByteArray)))))]⟩) (zpt rfl (e rfl rfl) hg8 (e rfl rfl)) rfl rfl ?_
      refine sy _ (zmv rfl (e rfl rfl)) rfl rfl ?_
      rcases Bool.eq_false_or_eq_true (decide ((a0.Host) = ((⟨#[]⟩ : ByteArray)))) with hg9 | hg9
      · replace hr := bf_t hg9 hr
        have hg9p := dec_t hg9
        refine gr rfl rfl rfl (eg rfl rfl) hg9 ?_
        refine sy (.t ⟨false, [.vp 0 5]⟩) (zfa tabOk rfl rfl rfl (e rfl rfl) rfl rfl) rfl rfl ?_
        refine gr rfl rfl rfl (eg rfl rfl) hg9 ?_
        refine sy (.t ⟨false, [.d (dS (a0.Text))]⟩) (zlv tabOk rfl (e rfl rfl) rfl rfl rfl) rfl rfl ?_
        refine gr rfl rfl rfl (eg rfl rfl) hg9 ?_
        refine sy (.t ⟨false, [.d (dB (decide ((a0.Text) = ((⟨#[]⟩ : ByteArray)))))]⟩) (y_bin rfl (e rfl rfl) (ec rfl) (fun _ => b_seql) rfl) rfl rfl ?_
        refine sy (.t ⟨false, [.d (dB (decide ((a0.Text) = ((⟨#[]⟩ : ByteArray)))))]⟩) (zpt rfl (e rfl rfl) hg9 (e rfl rfl)) rfl rfl ?_
        refine sy _ (zas rfl (e rfl rfl)) rfl rfl ?_
        refine s_end ?_
        refine v_ret ?_
        subst hr
        exact post_ret (rv (.tmp (eg rfl rfl)) rfl (.lf .nil) rfl .nil) (.ro .nil) rfl
      replace hr := bf_f hg9 hr
      have hg9p := dec_f hg9
      refine gs rfl rfl rfl (eg rfl rfl) hg9 rfl ?_
      refine gs rfl rfl rfl (eg rfl rfl) hg9 rfl ?_
      refine gs rfl rfl rfl (eg rfl rfl) hg9 rfl ?_
      refine sy (.t ⟨false, [.d (dB (false))]⟩) (zpf rfl (e rfl rfl) hg9 (ec rfl)) rfl rfl ?_
      refine sy _ (zas rfl (e rfl rfl)) rfl rfl ?_
      refine s_end ?_
      refine v_ret ?_
      subst hr
      exact post_ret (rv (.tmp (eg rfl rfl)) rfl (.lf .nil) rfl .nil) (.ro .nil) rfl
    replace hr := bf_f hg8 hr
    refine gs rfl rfl rfl (eg rfl rfl) hg8 rfl ?_
    refine gs rfl rfl rfl (eg rfl rfl) hg8 rfl ?_
    refine gs rfl rfl rfl (eg rfl rfl) hg8 rfl ?_
    refine sy (.t ⟨false, [.d (dB (false))]⟩) (zpf rfl (e rfl rfl) hg8 (ec rfl)) rfl rfl ?_
    refine sy _ (zmv rfl (e rfl rfl)) rfl rfl ?_
    refine gs rfl rfl rfl (eg rfl rfl) rfl rfl ?_
    refine gs rfl rfl rfl (eg rfl rfl) rfl rfl ?_
    refine gs rfl rfl rfl (eg rfl rfl) rfl rfl ?_
    refine sy (.t ⟨false, [.d (dB (false))]⟩) (zpf rfl (e rfl rfl) rfl (ec rfl)) rfl rfl ?_
    refine sy _ (zas rfl (e rfl rfl)) rfl rfl ?_
    refine s_end ?_
    refine v_ret ?_
    subst hr
    exact post_ret (rv (.tmp (eg rfl rfl)) rfl (.lf .nil) rfl .nil) (.ro .nil) rfl
  replace hr := bf_f hb7 hr
  have hb7p := dec_f hb7
  refine v_seq ?_
  refine v_seq ?_
  refine v_reg ?_
  refine sy (.t ⟨false, [.d (dB (decide ((a0.Typ) = (2))))]⟩) (y_bin rfl (e rfl rfl) (ec rfl) (fun _ => b_eql) rfl) rfl rfl ?_
  refine sy _ (zas rfl (e rfl rfl)) rfl rfl ?_
  refine s_end ?_
  refine v_cond (e rfl rfl) (fun hb10 => ?_) fun hb10 => ?_
  · replace hr := bf_t hb10 hr
    have hb10p := dec_t hb10
    refine v_skip ?_
    refine v_cT (e rfl rfl) hb10 ?_
    refine v_seq ?_
    refine v_reg ?_
    refine sy (.t ⟨false, [.vp 0 3]⟩) (zfa tabOk rfl rfl rfl (e rfl rfl) rfl rfl) rfl rfl ?_
    refine sy (.t ⟨false, [.d (dI (a0.N))]⟩) (zlv tabOk rfl (e rfl rfl) rfl rfl rfl) rfl rfl ?_
    refine sy (.t ⟨false, [.d (dB (decide ((a0.N) = (0))))]⟩) (y_bin rfl (e rfl rfl) (ec rfl) (fun _ => b_eql) rfl) rfl rfl ?_
    refine sy _ (zmv rfl (e rfl rfl)) rfl rfl ?_
    rcases Bool.eq_false_or_eq_true (decide ((a0.N) = (0))) with hg11 | hg11
    · replace hr := bf_t hg11 hr
      have hg11p := dec_t hg11
      refine gr rfl rfl rfl (eg rfl rfl) hg11 ?_
      refine sy (.t ⟨false, [.vp 0 4]⟩) (zfa tabOk rfl rfl rfl (e rfl rfl) rfl rfl) rfl rfl ?_
      refine gr rfl rfl rfl (eg rfl rfl) hg11 ?_
      refine sy (.t ⟨false, [.d (dS (a0.Host))]⟩) (zlv tabOk rfl (e rfl rfl) rfl rfl rfl) rfl rfl ?_
      refine gr rfl rfl rfl (eg rfl rfl) hg11 ?_
      refine sd (.t ⟨false, [.d (dB (n_spec_NameOk a0.Host))]⟩) (zcd (.t ⟨false, [.d (dB (n_spec_NameOk a0.Host))]⟩) rfl (tr2_n_impl_NameOk a0.Host h0.Host) (ar (e rfl rfl) (.d .nil) .nil) rfl) rfl rfl rfl rfl ?_
      refine sy (.t ⟨false, [.d (dB (n_spec_NameOk a0.Host))]⟩) (zpt rfl (e rfl rfl) hg11 (e rfl rfl)) rfl rfl ?_
      refine sy _ (zmv rfl (e rfl rfl)) rfl rfl ?_
      rcases Bool.eq_false_or_eq_true (n_spec_NameOk a0.Host) with hg12 | hg12
      · replace hr := bf_t hg12 hr
        refine gr rfl rfl rfl (eg rfl rfl) hg12 ?_
        refine sy (.t ⟨false, [.vp 0 5]⟩) (zfa tabOk rfl rfl rfl (e rfl rfl) rfl rfl) rfl rfl ?_
        refine gr rfl rfl rfl (eg rfl rfl) hg12 ?_
        refine sy (.t ⟨false, [.d (dS (a0.Text))]⟩) (zlv tabOk rfl (e rfl rfl) rfl rfl rfl) rfl rfl ?_
        refine gr rfl rfl rfl (eg rfl rfl) hg12 ?_
        refine sy (.t ⟨false, [.d (dB (decide ((a0.Text) = ((⟨#[]⟩ : ByteArray)))))]⟩) (y_bin rfl (e rfl rfl) (ec rfl) (fun _ => b_seql) rfl) rfl rfl ?_
        refine sy (.t ⟨false, [.d (dB (decide ((a0.Text) = ((⟨#[]⟩ : ByteArray)))))]⟩) (zpt rfl (e rfl rfl) hg12 (e rfl rfl)) rfl rfl ?_
        refine sy _ (zas rfl (e rfl rfl)) rfl rfl ?_
        refine s_end ?_
        refine v_ret ?_
        subst hr
        exact post_ret (rv (.tmp (eg rfl rfl)) rfl (.lf .nil) rfl .nil) (.ro .nil) rfl
      replace hr := bf_f hg12 hr
      refine gs rfl rfl rfl (eg rfl rfl) hg12 rfl ?_
      refine gs rfl rfl rfl (eg rfl rfl) hg12 rfl ?_
      refine gs rfl rfl rfl (eg rfl rfl) hg12 rfl ?_
      refine sy (.t ⟨false, [.d (dB (false))]⟩) (zpf rfl (e rfl rfl) hg12 (ec rfl)) rfl rfl ?_
      refine sy _ (zas rfl (e rfl rfl)) rfl rfl ?_
      refine s_end ?_
      refine v_ret ?_
      subst hr
      exact post_ret (rv (.tmp (eg rfl rfl)) rfl (.lf .nil) rfl .nil) (.ro .nil) rfl
    replace hr := bf_f hg11 hr
    have hg11p := dec_f hg11
    refine gs rfl rfl rfl (eg rfl rfl) hg11 rfl ?_
    refine gs rfl rfl rfl (eg rfl rfl) hg11 rfl ?_
    refine gs rfl rfl rfl (eg rfl rfl) hg11 rfl ?_
    refine sy (.t ⟨false, [.d (dB (false))]⟩) (zpf rfl (e rfl rfl) hg11 (ec rfl)) rfl rfl ?_
    refine sy _ (zmv rfl (e rfl rfl)) rfl rfl ?_
    refine gs rfl rfl rfl (eg rfl rfl) rfl rfl ?_
    refine gs rfl rfl rfl (eg rfl rfl) rfl rfl ?_
    refine gs rfl rfl rfl (eg rfl rfl) rfl rfl ?_
    refine sy (.t ⟨false, [.d (dB (false))]⟩) (zpf rfl (e rfl rfl) rfl (ec rfl)) rfl rfl ?_
    refine sy _ (zas rfl (e rfl rfl)) rfl rfl ?_
    refine s_end ?_
    refine v_ret ?_
    subst hr
    exact post_ret (rv (.tmp (eg rfl rfl)) rfl (.lf .nil) rfl .nil) (.ro .nil) rfl
  replace hr := bf_f hb10 hr
  have hb10p := dec_f hb10
  refine v_reg ?_
  refine sy (.t ⟨false, [.d (dB (decide ((a0.Typ) = (5))))]⟩) (y_bin rfl (e rfl rfl) (ec rfl) (fun _ => b_eql) rfl) rfl rfl ?_
  refine sy _ (zas rfl (e rfl rfl)) rfl rfl ?_
  refine s_end ?_
  refine v_cond (e rfl rfl) (fun hb13 => ?_) fun hb13 => ?_
  · replace hr := bf_t hb13 hr
    have hb13p := dec_t hb13
    refine v_seq ?_
    refine v_reg ?_
    refine sy (.t ⟨false, [.vp 0 3]⟩) (zfa tabOk rfl rfl rfl (e rfl rfl) rfl rfl) rfl rfl ?_
    refine sy (.t ⟨false, [.d (dI (a0.N))]⟩) (zlv tabOk rfl (e rfl rfl) rfl rfl rfl) rfl rfl ?_
    refine sy (.t ⟨false, [.d (dB (decide ((a0.N) = (0))))]⟩) (y_bin rfl (e rfl rfl) (ec rfl) (fun _ => b_eql) rfl) rfl rfl ?_
    refine sy _ (zmv rfl (e rfl rfl)) rfl rfl ?_
    rcases Bool.eq_false_or_eq_true (decide ((a0.N) = (0))) with hg14 | hg14
    · replace hr := bf_t hg14 hr
      have hg14p := dec_t hg14
      refine gr rfl rfl rfl (eg rfl rfl) hg14 ?_
      refine sy (.t ⟨false, [.vp 0 4]⟩) (zfa tabOk rfl rfl rfl (e rfl rfl) rfl rfl) rfl rfl ?_
      refine gr rfl rfl rfl (eg rfl rfl) hg14 ?_
      refine sy (.t ⟨false, [.d (dS (a0.Host))]⟩) (zlv tabOk rfl (e rfl rfl) rfl rfl rfl) rfl rfl ?_
      refine gr rfl rfl rfl (eg rfl rfl) hg14 ?_
      refine sd (.t ⟨false, [.d (dB (n_spec_NameOk a0.Host))]⟩) (zcd (.t ⟨false, [.d (dB (n_spec_NameOk a0.Host))]⟩) rfl (tr2_n_impl_NameOk a0.Host h0.Host) (ar (e rfl rfl) (.d .nil) .nil) rfl) rfl rfl rfl rfl ?_
      refine sy (.t ⟨false, [.d (dB (n_spec_NameOk a0.Host))]⟩) (zpt rfl (e rfl rfl) hg14 (e rfl rfl)) rfl rfl ?_
      refine sy _ (zmv rfl (e rfl rfl)) rfl rfl ?_
      rcases Bool.eq_false_or_eq_true (n_spec_NameOk a0.Host) with hg15 | hg15
      · replace hr := bf_t hg15 hr
        refine gr rfl rfl rfl (eg rfl rfl) hg15 ?_
        refine sy (.t ⟨false, [.vp 0 5]⟩) (zfa tabOk rfl rfl rfl (e rfl rfl) rfl rfl) rfl rfl ?_
        refine gr rfl rfl rfl (eg rfl rfl) hg15 ?_
        refine sy (.t ⟨false, [.d (dS (a0.Text))]⟩) (zlv tabOk rfl (e rfl rfl) rfl rfl rfl) rfl rfl ?_
        refine gr rfl rfl rfl (eg rfl rfl) hg15 ?_
        refine sy (.t ⟨false, [.d (dB (decide ((a0.Text) = ((⟨#[]⟩ : ByteArray)))))]⟩) (y_bin rfl (e rfl rfl) (ec rfl) (fun _ => b_seql) rfl) rfl rfl ?_
        refine sy (.t ⟨false, [.d (dB (decide ((a0.Text) = ((⟨#[]⟩ : ByteArray)))))]⟩) (zpt rfl (e rfl rfl) hg15 (e rfl rfl)) rfl rfl ?_
        refine sy _ (zas rfl (e rfl rfl)) rfl rfl ?_
        refine s_end ?_
        refine v_ret ?_
        subst hr
        exact post_ret (rv (.tmp (eg rfl rfl)) rfl (.lf .nil) rfl .nil) (.ro .nil) rfl
      replace hr := bf_f hg15 hr
      refine gs rfl rfl rfl (eg rfl rfl) hg15 rfl ?_
      refine gs rfl rfl rfl (eg rfl rfl) hg15 rfl ?_
      refine gs rfl rfl rfl (eg rfl rfl) hg15 rfl ?_
      refine sy (.t ⟨false, [.d (dB (false))]⟩) (zpf rfl (e rfl rfl) hg15 (ec rfl)) rfl rfl ?_
      refine sy _ (zas rfl (e rfl rfl)) rfl rfl ?_
      refine s_end ?_
      refine v_ret ?_
      subst hr
      exact post_ret (rv (.tmp (eg rfl rfl)) rfl (.lf .nil) rfl .nil) (.ro .nil) rfl
    replace hr := bf_f hg14 hr
    have hg14p := dec_f hg14
    refine gs rfl rfl rfl (eg rfl rfl) hg14 rfl ?_
    refine gs rfl rfl rfl (eg rfl rfl) hg14 rfl ?_
    refine gs rfl rfl rfl (eg rfl rfl) hg14 rfl ?_
    refine sy (.t ⟨false, [.d (dB (false))]⟩) (zpf rfl (e rfl rfl) hg14 (ec rfl)) rfl rfl ?_
    refine sy _ (zmv rfl (e rfl rfl)) rfl rfl ?_
    refine gs rfl rfl rfl (eg rfl rfl) rfl rfl ?_
    refine gs rfl rfl rfl (eg rfl rfl) rfl rfl ?_
    refine gs rfl rfl rfl (eg rfl rfl) rfl rfl ?_
    refine sy (.t ⟨false, [.d (dB (false))]⟩) (zpf rfl (e rfl rfl) rfl (ec rfl)) rfl rfl ?_
    refine sy _ (zas rfl (e rfl rfl)) rfl rfl ?_
    refine s_end ?_
    refine v_ret ?_
    subst hr
    exact post_ret (rv (.tmp (eg rfl rfl)) rfl (.lf .nil) rfl .nil) (.ro .nil) rfl
  replace hr := bf_f hb13 hr
  have hb13p := dec_f hb13
  refine v_seq ?_
  refine v_reg ?_
  refine sy (.t ⟨false, [.d (dB (decide ((a0.Typ) = (6))))]⟩) (y_bin rfl (e rfl rfl) (ec rfl) (fun _ => b_eql) rfl) rfl rfl ?_
  refine sy _ (zas rfl (e rfl rfl)) rfl rfl ?_
  refine s_end ?_
  refine v_cond (e rfl rfl) (fun hb16 => ?_) fun hb16 => ?_
  · replace hr := bf_t hb16 hr
    have hb16p := dec_t hb16
    refine v_seq ?_
    refine v_reg ?_
    refine sy (.t ⟨false, [.vp 0 3]⟩) (zfa tabOk rfl rfl rfl (e rfl rfl) rfl rfl) rfl rfl ?_
    refine sy (.t ⟨false, [.d (dI (a0.N))]⟩) (zlv tabOk rfl (e rfl rfl) rfl rfl rfl) rfl rfl ?_
    refine sd (.t ⟨false, [.d (dB (n_impl_isTtl a0.N))]⟩) (zcd (.t ⟨false, [.d (dB (n_impl_isTtl a0.N))]⟩) rfl (tr_n_impl_isTtl a0.N) (ar (e rfl rfl) (.d .nil) .nil) rfl) rfl rfl rfl rfl ?_
    refine sy _ (zmv rfl (e rfl rfl)) rfl rfl ?_
    rcases Bool.eq_false_or_eq_true (n_impl_isTtl a0.N) with hg17 | hg17
    · replace hr := bf_t hg17 hr
      refine gr rfl rfl rfl (eg rfl rfl) hg17 ?_
      refine sy (.t ⟨false, [.vp 0 4]⟩) (zfa tabOk rfl rfl rfl (e rfl rfl) rfl rfl) rfl rfl ?_
      refine gr rfl rfl rfl (eg rfl rfl) hg17 ?_
      refine sy (.t ⟨false, [.d (dS (a0.Host))]⟩) (zlv tabOk rfl (e rfl rfl) rfl rfl rfl) rfl rfl ?_
      refine gr rfl rfl rfl (eg rfl rfl) hg17 ?_
      refine sd (.t ⟨false, [.d (dB (n_spec_NameOk a0.Host))]⟩) (zcd (.t ⟨false, [.d (dB (n_spec_NameOk a0.Host))]⟩) rfl (tr2_n_impl_NameOk a0.Host h0.Host) (ar (e rfl rfl) (.d .nil) .nil) rfl) rfl rfl rfl rfl ?_
      refine sy (.t ⟨false, [.d (dB (n_spec_NameOk a0.Host))]⟩) (zpt rfl (e rfl rfl) hg17 (e rfl rfl)) rfl rfl ?_
      refine sy _ (zmv rfl (e rfl rfl)) rfl rfl ?_
      rcases Bool.eq_false_or_eq_true (n_spec_NameOk a0.Host) with hg18 | hg18
      · replace hr := bf_t hg18 hr
        refine gr rfl rfl rfl (eg rfl rfl) hg18 ?_
        refine sy (.t ⟨false, [.vp 0 5]⟩) (zfa tabOk rfl rfl rfl (e rfl rfl) rfl rfl) rfl rfl ?_
        refine gr rfl rfl rfl (eg rfl rfl) hg18 ?_
        refine sy (.t ⟨false, [.d (dS (a0.Text))]⟩) (zlv tabOk rfl (e rfl rfl) rfl rfl rfl) rfl rfl ?_
        refine gr rfl rfl rfl (eg rfl rfl) hg18 ?_
        refine sy (.t ⟨false, [.d (dB (decide ((a0.Text) = ((⟨#[]⟩ : ByteArray)))))]⟩) (y_bin rfl (e rfl rfl) (ec rfl) (fun _ => b_seql) rfl) rfl rfl ?_
        refine sy (.t ⟨false, [.d (dB (decide ((a0.Text) = ((⟨#[]⟩ : ByteArray)))))]⟩) (zpt rfl (e rfl rfl) hg18 (e rfl rfl)) rfl rfl ?_
        refine sy _ (zas rfl (e rfl rfl)) rfl rfl ?_
        refine s_end ?_
        refine v_ret ?_
        subst hr
        exact post_ret (rv (.tmp (eg rfl rfl)) rfl (.lf .nil) rfl .nil) (.ro .nil) rfl
      replace hr := bf_f hg18 hr
      refine gs rfl rfl rfl (eg rfl rfl) hg18 rfl ?_
      refine gs rfl rfl rfl (eg rfl rfl) hg18 rfl ?_
      refine gs rfl rfl rfl (eg rfl rfl) hg18 rfl ?_
      refine sy (.t ⟨false, [.d (dB (false))]⟩) (zpf rfl (e rfl rfl) hg18 (ec rfl)) rfl rfl ?_
      refine sy _ (zas rfl (e rfl rfl)) rfl rfl ?_
      refine s_end ?_
      refine v_ret ?_
      subst hr
      exact post_ret (rv (.tmp (eg rfl rfl)) rfl (.lf .nil) rfl .nil) (.ro .nil) rfl
    replace hr := bf_f hg17 hr
    refine gs rfl rfl rfl (eg rfl rfl) hg17 rfl ?_
    refine gs rfl rfl rfl (eg rfl rfl) hg17 rfl ?_
    refine gs rfl rfl rfl (eg rfl rfl) hg17 rfl ?_
    refine sy (.t ⟨false, [.d (dB (false))]⟩) (zpf rfl (e rfl rfl) hg17 (ec rfl)) rfl rfl ?_
    refine sy _ (zmv rfl (e rfl rfl)) rfl rfl ?_
    refine gs rfl rfl rfl (eg rfl rfl) rfl rfl ?_
    refine gs rfl rfl rfl (eg rfl rfl) rfl rfl ?_
    refine gs rfl rfl rfl (eg rfl rfl) rfl rfl ?_
    refine sy (.t ⟨false, [.d (dB (false))]⟩) (zpf rfl (e rfl rfl) rfl (ec rfl)) rfl rfl ?_
    refine sy _ (zas rfl (e rfl rfl)) rfl rfl ?_
    refine s_end ?_
    refine v_ret ?_
    subst hr
    exact post_ret (rv (.tmp (eg rfl rfl)) rfl (.lf .nil) rfl .nil) (.ro .nil) rfl
  replace hr := bf_f hb16 hr
  have hb16p := dec_f hb16
  refine v_seq ?_
  refine v_reg ?_
  refine sy (.t ⟨false, [.d (dB (decide ((a0.Typ) = (16))))]⟩) (y_bin rfl (e rfl rfl) (ec rfl) (fun _ => b_eql) rfl) rfl rfl ?_
  refine sy _ (zas rfl (e rfl rfl)) rfl rfl ?_
  refine s_end ?_
  refine v_cond (e rfl rfl) (fun hb19 => ?_) fun hb19 => ?_
  · replace hr := bf_t hb19 hr
    have hb19p := dec_t hb19
    refine v_seq ?_
    refine v_reg ?_
    refine sy (.t ⟨false, [.vp 0 3]⟩) (zfa tabOk rfl rfl rfl (e rfl rfl) rfl rfl) rfl rfl ?_
    refine sy (.t ⟨false, [.d (dI (a0.N))]⟩) (zlv tabOk rfl (e rfl rfl) rfl rfl rfl) rfl rfl ?_
    refine sy (.t ⟨false, [.d (dB (decide ((a0.N) = (0))))]⟩) (y_bin rfl (e rfl rfl) (ec rfl) (fun _ => b_eql) rfl) rfl rfl ?_
    refine sy _ (zmv rfl (e rfl rfl)) rfl rfl ?_
    rcases Bool.eq_false_or_eq_true (decide ((a0.N) = (0))) with hg20 | hg20
    · replace hr := bf_t hg20 hr
      have hg20p := dec_t hg20
      refine gr rfl rfl rfl (eg rfl rfl) hg20 ?_
      refine sy (.t ⟨false, [.vp 0 4]⟩) (zfa tabOk rfl rfl rfl (e rfl rfl) rfl rfl) rfl rfl ?_
      refine gr rfl rfl rfl (eg rfl rfl) hg20 ?_
      refine sy (.t ⟨false, [.d (dS (a0.Host))]⟩) (zlv tabOk rfl (e rfl rfl) rfl rfl rfl) rfl rfl ?_
      refine gr rfl rfl rfl (eg rfl rfl) hg20 ?_
      refine sy (.t ⟨false, [.d (dB (decide ((a0.Host) = ((⟨#[]⟩ : ByteArray)))))]⟩) (y_bin rfl (e rfl rfl) (ec rfl) (fun _ => b_seql) rfl) rfl rfl ?_
      refine sy (.t ⟨false, [.d (dB (decide ((a0.Host) = ((⟨#[]⟩ : ByteArray)))))]⟩) (zpt rfl (e rfl rfl) hg20 (e rfl rfl)) rfl rfl ?_
      refine sy _ (zmv rfl (e rfl rfl)) rfl rfl ?_
      rcases Bool.eq_false_or_eq_true (decide ((a0.Host) = ((⟨#[]⟩ : ByteArray)))) with hg21 | hg21
      · replace hr := bf_t hg21 hr
        have hg21p := dec_t hg21
        refine gr rfl rfl rfl (eg rfl rfl) hg21 ?_
        refine sy (.t ⟨false, [.vp 0 5]⟩) (zfa tabOk rfl rfl rfl (e rfl rfl) rfl rfl) rfl rfl ?_
        refine gr rfl rfl rfl (eg rfl rfl) hg21 ?_
        refine sy (.t ⟨false, [.d (dS (a0.Text))]⟩) (zlv tabOk rfl (e rfl rfl) rfl rfl rfl) rfl rfl ?_
        refine gr rfl rfl rfl (eg rfl rfl) hg21 ?_
        refine sd (.t ⟨false, [.d (dB (n_impl_isText a0.Text))]⟩) (zcd (.t ⟨false, [.d (dB (n_impl_isText a0.Text))]⟩) rfl (tr_n_impl_isText a0.Text h0.Text) (ar (e rfl rfl) (.d .nil) .nil) rfl) rfl rfl rfl rfl ?_
        refine sy (.t ⟨false, [.d (dB (n_impl_isText a0.Text))]⟩) (zpt rfl (e rfl rfl) hg21 (e rfl rfl)) rfl rfl ?_
        refine sy _ (zas rfl (e rfl rfl)) rfl rfl ?_
        refine s_end ?_
        refine v_ret ?_
        subst hr
        exact post_ret (rv (.tmp (eg rfl rfl)) rfl (.lf .nil) rfl .nil) (.ro .nil) rfl
      replace hr := bf_f hg21 hr
      have hg21p := dec_f hg21
      refine gs rfl rfl rfl (eg rfl rfl) hg21 rfl ?_
      refine gs rfl rfl rfl (eg rfl rfl) hg21 rfl ?_
      refine gs rfl rfl rfl (eg rfl rfl) hg21 rfl ?_
      refine sy (.t ⟨false, [.d (dB (false))]⟩) (zpf rfl (e rfl rfl) hg21 (ec rfl)) rfl rfl ?_
      refine sy _ (zas rfl (e rfl rfl)) rfl rfl ?_
      refine s_end ?_
      refine v_ret ?_
      subst hr
      exact post_ret (rv (.tmp (eg rfl rfl)) rfl (.lf .nil) rfl .nil) (.ro .nil) rfl
    replace hr := bf_f hg20 hr
    have hg20p := dec_f hg20
    refine gs rfl rfl rfl (eg rfl rfl) hg20 rfl ?_
    refine gs rfl rfl rfl (eg rfl rfl) hg20 rfl ?_
    refine gs rfl rfl rfl (eg rfl rfl) hg20 rfl ?_
    refine sy (.t ⟨false, [.d (dB (false))]⟩) (zpf rfl (e rfl rfl) hg20 (ec rfl)) rfl rfl ?_
    refine sy _ (zmv rfl (e rfl rfl)) rfl rfl ?_
    refine gs rfl rfl rfl (eg rfl rfl) rfl rfl ?_
    refine gs rfl rfl rfl (eg rfl rfl) rfl rfl ?_
    refine gs rfl rfl rfl (eg rfl rfl) rfl rfl ?_
    refine sy (.t ⟨false, [.d (dB (false))]⟩) (zpf rfl (e rfl rfl) rfl (ec rfl)) rfl rfl ?_
    refine sy _ (zas rfl (e rfl rfl)) rfl rfl ?_
    refine s_end ?_
    refine v_ret ?_
    subst hr
    exact post_ret (rv (.tmp (eg rfl rfl)) rfl (.lf .nil) rfl .nil) (.ro .nil) rfl
  replace hr := bf_f hb19 hr
  have hb19p := dec_f hb19
  refine v_skip ?_
  refine blk_norm ?_
  refine v_seq ?_
  refine v_reg ?_
  refine sy _ (zas rfl (ec rfl)) rfl rfl ?_
  refine s_end ?_
  refine v_ret ?_
  subst hr
  exact post_ret (rv (.tmp (eg rfl rfl)) rfl (.lf .nil) rfl .nil) (.ro .nil) rfl
def n_impl_allOk_c1 (a0 : Record) : Bool := !(n_impl_RecordOk a0)
set_option maxHeartbeats 4000000 in
set_option maxRecDepth 20000 in
theorem tr_n_impl_allOk_c1 (a0 : Record) (h0 : Record.Fit a0) : Tr Tryd.prog 89 [.ro ⟨true, [dS (a0.Name), dI (a0.Typ), dI (a0.Ttl), dI (a0.N), dS (a0.Host), dS (a0.Text)]⟩] [⟨false, [dB ((n_impl_allOk_c1 a0))]⟩] := by
  obtain ⟨r, hr⟩ : ∃ r, n_impl_allOk_c1 a0 = r := ⟨_, rfl⟩
  rw [hr]
  rw [n_impl_allOk_c1] at hr
  refine tr_go tabOk Tryd.func89 rfl rfl rfl rfl rfl (ov := [(0, .t ⟨true, [.d (dS (a0.Name)), .d (dI (a0.Typ)), .d (dI (a0.Ttl)), .d (dI (a0.N)), .d (dS (a0.Host)), .d (dS (a0.Text))]⟩)]) (hv := []) rfl rfl ?_
  refine v_seq ?_
  refine v_reg ?_
  refine sr 0 (.t ⟨false, [.vp 0 0]⟩) (.var [.d (dS (a0.Name)), .d (dI (a0.Typ)), .d (dI (a0.Ttl)), .d (dI (a0.N)), .d (dS (a0.Host)), .d (dS (a0.Text))]) (zbx rfl (e rfl rfl) rfl rfl rfl) rfl rfl ?_
  refine sy _ (zas rfl (ec rfl)) rfl rfl ?_
  refine s_end ?_
  refine v_seq ?_
  refine v_reg ?_
  refine sy (.t ⟨true, [.d (dS (a0.Name)), .d (dI (a0.Typ)), .d (dI (a0.Ttl)), .d (dI (a0.N)), .d (dS (a0.Host)), .d (dS (a0.Text))]⟩) (zlv tabOk rfl (e rfl rfl) rfl rfl rfl) rfl rfl ?_
  refine sd (.t ⟨false, [.d (dB (n_impl_RecordOk a0))]⟩) (zcd (.t ⟨false, [.d (dB (n_impl_RecordOk a0))]⟩) rfl (tr_n_impl_RecordOk a0 h0) (ar (e rfl rfl) (.d (.d (.d (.d (.d (.d .nil)))))) .nil) rfl) rfl rfl rfl rfl ?_
  refine sy (.t ⟨false, [.d (dB (!(n_impl_RecordOk a0)))]⟩) (y_un rfl (e rfl rfl) (fun _ => u_not) rfl) rfl rfl ?_
  refine sy _ (zas rfl (e rfl rfl)) rfl rfl ?_
  refine s_end ?_
  refine v_ret ?_
  subst hr
  exact post_ret (rv (.tmp (eg rfl rfl)) rfl (.lf .nil) rfl .nil) (.ro .nil) rfl
def n_impl_allOk (a0 : List Record) (a1 : Int) : Bool := cond (decide ((((a0).length : Int)) ≤ (a1))) (!(n_slices_ContainsFunc_Record a0 (fun x0 => n_impl_allOk_c1 x0))) (false)
set_option maxHeartbeats 4000000 in
set_option maxRecDepth 20000 in
theorem tr_n_impl_allOk (a0 : List Record) (a1 : Int) (h0 : fitL Record.Fit a0) : Tr Tryd.prog 43 [.ro ⟨false, [.sl 6 (a0.map Record.cells)]⟩, .ro ⟨false, [dI (a1)]⟩] [⟨false, [dB ((n_impl_allOk a0 a1))]⟩] := by
  obtain ⟨r, hr⟩ : ∃ r, n_impl_allOk a0 a1 = r := ⟨_, rfl⟩
  rw [hr]
  rw [n_impl_allOk] at hr
  refine tr_go tabOk Tryd.func43 rfl rfl rfl rfl rfl (ov := [(0, .t ⟨false, [.d (.sl 6 (a0.map Record.cells))]⟩), (1, .t ⟨false, [.d (dI (a1))]⟩)]) (hv := []) rfl rfl ?_
  refine v_seq ?_
  refine v_reg ?_
  refine sy _ (zas rfl (ec rfl)) rfl rfl ?_
  refine s_end ?_
  refine v_seq ?_
  refine v_reg ?_
  refine sy _ (zmv rfl (e rfl rfl)) rfl rfl ?_
  have hB1 := (h0).1
  refine sy (.t ⟨false, [.d (dI ((a0).length : Int))]⟩) (zlm tabOk rfl rfl (e rfl rfl) .d) rfl rfl ?_
  refine sy _ (zmv rfl (e rfl rfl)) rfl rfl ?_
  refine sy (.t ⟨false, [.d (dB (decide ((((a0).length : Int)) ≤ (a1))))]⟩) (y_bin rfl (e rfl rfl) (e rfl rfl) (fun _ => b_leq) rfl) rfl rfl ?_
  refine sy _ (zmv rfl (e rfl rfl)) rfl rfl ?_
  rcases Bool.eq_false_or_eq_true (decide ((((a0).length : Int)) ≤ (a1))) with hg1 | hg1
  · replace hr := bf_t hg1 hr
    have hg1p := dec_t hg1
    refine gr rfl rfl rfl (eg rfl rfl) hg1 ?_
    refine sy _ (zmv rfl (e rfl rfl)) rfl rfl ?_
    refine gr rfl rfl rfl (eg rfl rfl) hg1 ?_
    refine sd (.t ⟨false, [.d (dB (n_slices_ContainsFunc_Record a0 (fun x0 => n_impl_allOk_c1 x0)))]⟩) (zcd (.t ⟨false, [.d (dB (n_slices_ContainsFunc_Record a0 (fun x0 => n_impl_allOk_c1 x0)))]⟩) rfl (tr_n_slices_ContainsFunc_Record a0 89 [] (fun x0 => n_impl_allOk_c1 x0) h0 (fun x0 k0 => tr_n_impl_allOk_c1 x0 k0)) (ar (e rfl rfl) (.d .nil) (ar rfl (.cl .nil .nil) .nil)) rfl) rfl rfl rfl rfl ?_
    refine gr rfl rfl rfl (eg rfl rfl) hg1 ?_
    refine sy (.t ⟨false, [.d (dB (!(n_slices_ContainsFunc_Record a0 (fun x0 => n_impl_allOk_c1 x0))))]⟩) (y_un rfl (e rfl rfl) (fun _ => u_not) rfl) rfl rfl ?_
    refine sy (.t ⟨false, [.d (dB (!(n_slices_ContainsFunc_Record a0 (fun x0 => n_impl_allOk_c1 x0))))]⟩) (zpt rfl (e rfl rfl) hg1 (e rfl rfl)) rfl rfl ?_
    refine sy _ (zas rfl (e rfl rfl)) rfl rfl ?_
    refine s_end ?_
    refine v_ret ?_
    subst hr
    exact post_ret (rv (.tmp (eg rfl rfl)) rfl (.lf .nil) rfl .nil) (.ro (.ro .nil)) rfl
  replace hr := bf_f hg1 hr
  have hg1p := dec_f hg1
  refine gs rfl rfl rfl (eg rfl rfl) hg1 rfl ?_
  refine gs rfl rfl rfl (eg rfl rfl) hg1 rfl ?_
  refine gs rfl rfl rfl (eg rfl rfl) hg1 rfl ?_
  refine sy (.t ⟨false, [.d (dB (false))]⟩) (zpf rfl (e rfl rfl) hg1 (ec rfl)) rfl rfl ?_
  refine sy _ (zas rfl (e rfl rfl)) rfl rfl ?_
  refine s_end ?_
  refine v_ret ?_
  subst hr
  exact post_ret (rv (.tmp (eg rfl rfl)) rfl (.lf .nil) rfl .nil) (.ro (.ro .nil)) rfl
def n_impl_ExchOk (a0 : Exch) : Bool := cond (decide ((a0.Try) = (0))) (decide (a0 = (⟨0, 0, 0, 0⟩ : Exch))) (cond (n_impl_isId a0.Id) (cond (n_impl_isFour a0.Addr) (cond (n_impl_isFrom a0.Try 1 4) (decide ((0) ≤ (a0.Due))) (false)) (false)) (false))
set_option maxHeartbeats 4000000 in
set_option maxRecDepth 20000 in
theorem tr_n_impl_ExchOk (a0 : Exch) (h0 : Exch.Fit a0) : Tr Tryd.prog 46 [.ro ⟨true, [dI (a0.Id), dI (a0.Addr), dI (a0.Try), dI (a0.Due)]⟩] [⟨false, [dB ((n_impl_ExchOk a0))]⟩] := by
  obtain ⟨r, hr⟩ : ∃ r, n_impl_ExchOk a0 = r := ⟨_, rfl⟩
  rw [hr]
  rw [n_impl_ExchOk] at hr
  refine tr_go tabOk Tryd.func46 rfl rfl rfl rfl rfl (ov := [(0, .t ⟨true, [.d (dI (a0.Id)), .d (dI (a0.Addr)), .d (dI (a0.Try)), .d (dI (a0.Due))]⟩)]) (hv := []) rfl rfl ?_
  refine v_seq ?_
  refine v_reg ?_
  refine sr 0 (.t ⟨false, [.vp 0 0]⟩) (.var [.d (dI (a0.Id)), .d (dI (a0.Addr)), .d (dI (a0.Try)), .d (dI (a0.Due))]) (zbx rfl (e rfl rfl) rfl rfl rfl) rfl rfl ?_
  refine sy _ (zas rfl (ec rfl)) rfl rfl ?_
  refine s_end ?_
  refine v_seq ?_
  refine v_seq ?_
  refine v_reg ?_
  refine sy (.t ⟨false, [.vp 0 2]⟩) (zfa tabOk rfl rfl rfl (e rfl rfl) rfl rfl) rfl rfl ?_
  refine sy (.t ⟨false, [.d (dI (a0.Try))]⟩) (zlv tabOk rfl (e rfl rfl) rfl rfl rfl) rfl rfl ?_
  refine sy (.t ⟨false, [.d (dB (decide ((a0.Try) = (0))))]⟩) (y_bin rfl (e rfl rfl) (ec rfl) (fun _ => b_eql) rfl) rfl rfl ?_
  refine s_end ?_
  refine v_cond (e rfl rfl) (fun hb1 => ?_) fun hb1 => ?_
  · replace hr := bf_t hb1 hr
    have hb1p := dec_t hb1
    refine v_seq ?_
    refine v_reg ?_
    refine sy (.t ⟨true, [.d (dI (a0.Id)), .d (dI (a0.Addr)), .d (dI (a0.Try)), .d (dI (a0.Due))]⟩) (zlv tabOk rfl (e rfl rfl) rfl rfl rfl) rfl rfl ?_
    refine sy (.t ⟨true, [.d (dI (0)), .d (dI (0)), .d (dI (0)), .d (dI (0))]⟩) (zbd tabOk rfl rfl .nil) rfl rfl ?_
    refine sy (.t ⟨false, [.d (dB (decide (a0 = (⟨0, 0, 0, 0⟩ : Exch))))]⟩) (zeqs35 (a := a0) (b := (⟨0, 0, 0, 0⟩ : Exch)) rfl (e rfl rfl) (e rfl rfl)) rfl rfl ?_
    refine sy _ (zas rfl (e rfl rfl)) rfl rfl ?_
    refine s_end ?_
    refine v_ret ?_
    subst hr
    exact post_ret (rv (.tmp (eg rfl rfl)) rfl (.lf .nil) rfl .nil) (.ro .nil) rfl
  replace hr := bf_f hb1 hr
  have hb1p := dec_f hb1
  refine v_skip ?_
  refine v_seq ?_
  refine v_reg ?_
  refine sy (.t ⟨false, [.vp 0 0]⟩) (zfa tabOk rfl rfl rfl (e rfl rfl) rfl rfl) rfl rfl ?_
  refine sy (.t ⟨false, [.d (dI (a0.Id))]⟩) (zlv tabOk rfl (e rfl rfl) rfl rfl rfl) rfl rfl ?_
  refine sd (.t ⟨false, [.d (dB (n_impl_isId a0.Id))]⟩) (zcd (.t ⟨false, [.d (dB (n_impl_isId a0.Id))]⟩) rfl (tr_n_impl_isId a0.Id) (ar (e rfl rfl) (.d .nil) .nil) rfl) rfl rfl rfl rfl ?_
  refine sy _ (zmv rfl (e rfl rfl)) rfl rfl ?_
  rcases Bool.eq_false_or_eq_true (n_impl_isId a0.Id) with hg2 | hg2
  · replace hr := bf_t hg2 hr
    refine gr rfl rfl rfl (eg rfl rfl) hg2 ?_
    refine sy (.t ⟨false, [.vp 0 1]⟩) (zfa tabOk rfl rfl rfl (e rfl rfl) rfl rfl) rfl rfl ?_
    refine gr rfl rfl rfl (eg rfl rfl) hg2 ?_
    refine sy (.t ⟨false, [.d (dI (a0.Addr))]⟩) (zlv tabOk rfl (e rfl rfl) rfl rfl rfl) rfl rfl ?_
    refine gr rfl rfl rfl (eg rfl rfl) hg2 ?_
    refine sd (.t ⟨false, [.d (dB (n_impl_isFour a0.Addr))]⟩) (zcd (.t ⟨false, [.d (dB (n_impl_isFour a0.Addr))]⟩) rfl (tr_n_impl_isFour a0.Addr) (ar (e rfl rfl) (.d .nil) .nil) rfl) rfl rfl rfl rfl ?_
    refine sy (.t ⟨false, [.d (dB (n_impl_isFour a0.Addr))]⟩) (zpt rfl (e rfl rfl) hg2 (e rfl rfl)) rfl rfl ?_
    refine sy _ (zmv rfl (e rfl rfl)) rfl rfl ?_
    rcases Bool.eq_false_or_eq_true (n_impl_isFour a0.Addr) with hg3 | hg3
    · replace hr := bf_t hg3 hr
      refine gr rfl rfl rfl (eg rfl rfl) hg3 ?_
      refine sy (.t ⟨false, [.vp 0 2]⟩) (zfa tabOk rfl rfl rfl (e rfl rfl) rfl rfl) rfl rfl ?_
      refine gr rfl rfl rfl (eg rfl rfl) hg3 ?_
      refine sy (.t ⟨false, [.d (dI (a0.Try))]⟩) (zlv tabOk rfl (e rfl rfl) rfl rfl rfl) rfl rfl ?_
      refine gr rfl rfl rfl (eg rfl rfl) hg3 ?_
      refine sd (.t ⟨false, [.d (dB (n_impl_isFrom a0.Try 1 4))]⟩) (zcd (.t ⟨false, [.d (dB (n_impl_isFrom a0.Try 1 4))]⟩) rfl (tr_n_impl_isFrom a0.Try 1 4) (ar (e rfl rfl) (.d .nil) (ar (ec rfl) (.d .nil) (ar (ec rfl) (.d .nil) .nil))) rfl) rfl rfl rfl rfl ?_
      refine sy (.t ⟨false, [.d (dB (n_impl_isFrom a0.Try 1 4))]⟩) (zpt rfl (e rfl rfl) hg3 (e rfl rfl)) rfl rfl ?_
      refine sy _ (zmv rfl (e rfl rfl)) rfl rfl ?_
      rcases Bool.eq_false_or_eq_true (n_impl_isFrom a0.Try 1 4) with hg4 | hg4
      · replace hr := bf_t hg4 hr
        refine gr rfl rfl rfl (eg rfl rfl) hg4 ?_
        refine sy (.t ⟨false, [.vp 0 3]⟩) (zfa tabOk rfl rfl rfl (e rfl rfl) rfl rfl) rfl rfl ?_
        refine gr rfl rfl rfl (eg rfl rfl) hg4 ?_
        refine sy (.t ⟨false, [.d (dI (a0.Due))]⟩) (zlv tabOk rfl (e rfl rfl) rfl rfl rfl) rfl rfl ?_
        refine gr rfl rfl rfl (eg rfl rfl) hg4 ?_
        refine sy (.t ⟨false, [.d (dB (decide ((0) ≤ (a0.Due))))]⟩) (y_bin rfl (e rfl rfl) (ec rfl) (fun _ => b_geq) rfl) rfl rfl ?_
        refine sy (.t ⟨false, [.d (dB (decide ((0) ≤ (a0.Due))))]⟩) (zpt rfl (e rfl rfl) hg4 (e rfl rfl)) rfl rfl ?_
        refine sy _ (zas rfl (e rfl rfl)) rfl rfl ?_
        refine s_end ?_
        refine v_ret ?_
        subst hr
        exact post_ret (rv (.tmp (eg rfl rfl)) rfl (.lf .nil) rfl .nil) (.ro .nil) rfl
      replace hr := bf_f hg4 hr
      refine gs rfl rfl rfl (eg rfl rfl) hg4 rfl ?_
      refine gs rfl rfl rfl (eg rfl rfl) hg4 rfl ?_
      refine gs rfl rfl rfl (eg rfl rfl) hg4 rfl ?_
      refine sy (.t ⟨false, [.d (dB (false))]⟩) (zpf rfl (e rfl rfl) hg4 (ec rfl)) rfl rfl ?_
      refine sy _ (zas rfl (e rfl rfl)) rfl rfl ?_
      refine s_end ?_
      refine v_ret ?_
      subst hr
      exact post_ret (rv (.tmp (eg rfl rfl)) rfl (.lf .nil) rfl .nil) (.ro .nil) rfl
    replace hr := bf_f hg3 hr
    refine gs rfl rfl rfl (eg rfl rfl) hg3 rfl ?_
    refine gs rfl rfl rfl (eg rfl rfl) hg3 rfl ?_
    refine gs rfl rfl rfl (eg rfl rfl) hg3 rfl ?_
    refine sy (.t ⟨false, [.d (dB (false))]⟩) (zpf rfl (e rfl rfl) hg3 (ec rfl)) rfl rfl ?_
    refine sy _ (zmv rfl (e rfl rfl)) rfl rfl ?_
    refine gs rfl rfl rfl (eg rfl rfl) rfl rfl ?_
    refine gs rfl rfl rfl (eg rfl rfl) rfl rfl ?_
    refine gs rfl rfl rfl (eg rfl rfl) rfl rfl ?_
    refine sy (.t ⟨false, [.d (dB (false))]⟩) (zpf rfl (e rfl rfl) rfl (ec rfl)) rfl rfl ?_
    refine sy _ (zas rfl (e rfl rfl)) rfl rfl ?_
    refine s_end ?_
    refine v_ret ?_
    subst hr
    exact post_ret (rv (.tmp (eg rfl rfl)) rfl (.lf .nil) rfl .nil) (.ro .nil) rfl
  replace hr := bf_f hg2 hr
  refine gs rfl rfl rfl (eg rfl rfl) hg2 rfl ?_
  refine gs rfl rfl rfl (eg rfl rfl) hg2 rfl ?_
  refine gs rfl rfl rfl (eg rfl rfl) hg2 rfl ?_
  refine sy (.t ⟨false, [.d (dB (false))]⟩) (zpf rfl (e rfl rfl) hg2 (ec rfl)) rfl rfl ?_
  refine sy _ (zmv rfl (e rfl rfl)) rfl rfl ?_
  refine gs rfl rfl rfl (eg rfl rfl) rfl rfl ?_
  refine gs rfl rfl rfl (eg rfl rfl) rfl rfl ?_
  refine gs rfl rfl rfl (eg rfl rfl) rfl rfl ?_
  refine sy (.t ⟨false, [.d (dB (false))]⟩) (zpf rfl (e rfl rfl) rfl (ec rfl)) rfl rfl ?_
  refine sy _ (zmv rfl (e rfl rfl)) rfl rfl ?_
  refine gs rfl rfl rfl (eg rfl rfl) rfl rfl ?_
  refine gs rfl rfl rfl (eg rfl rfl) rfl rfl ?_
  refine gs rfl rfl rfl (eg rfl rfl) rfl rfl ?_
  refine sy (.t ⟨false, [.d (dB (false))]⟩) (zpf rfl (e rfl rfl) rfl (ec rfl)) rfl rfl ?_
  refine sy _ (zas rfl (e rfl rfl)) rfl rfl ?_
  refine s_end ?_
  refine v_ret ?_
  subst hr
  exact post_ret (rv (.tmp (eg rfl rfl)) rfl (.lf .nil) rfl .nil) (.ro .nil) rfl
theorem law_TypeOk (n : Int) : n_impl_TypeOk n = n_spec_TypeOk n := by
  simp only [n_impl_TypeOk, n_impl_TypeText, n_spec_TypeOk, bindv]
  by_cases c1 : n = 1
  · simp [c1]
  · by_cases c2 : n = 2
    · simp [c2]
    · by_cases c3 : n = 5
      · simp [c3]
      · by_cases c4 : n = 6
        · simp [c4]
        · by_cases c5 : n = 16
          · simp [c5]
          · simp [c1, c2, c3, c4, c5]
theorem law_QuestOk (q : Quest) : n_impl_QuestOk q = n_spec_QuestOk q := by
  simp only [n_impl_QuestOk, n_spec_QuestOk, law_NameOk, law_TypeOk]
theorem law_isText (s : ByteArray) : n_impl_isText s = n_spec_l5Text s := by
  have key : ∀ (n i : Nat), i ≤ s.size → i + n = s.size + 1 → n_impl_isTextL1 s n i = n_spec_l5TextL1 s n i := by
    intro n
    induction n with
    | zero => intro i h1 h2; omega
    | succ n ih =>
      intro i h1 h2
      rw [n_impl_isTextL1, n_spec_l5TextL1]
      rcases Nat.lt_or_ge i s.size with h | h
      · have e : (decide ((i : Int) < (s.size : Int))) = true := by simp; omega
        rw [e, ih (i + 1) (by omega) (by omega)]
        simp only [n_spec_l1In, cond_true]
        generalize bt s i = b
        rw [dle 33 b, dle b 126]
        cases decide (b < 33) <;> cases decide (126 < b) <;> rfl
      · have e : (decide ((i : Int) < (s.size : Int))) = false := by simp; omega
        rw [e]; rfl
  exact key _ _ (Nat.zero_le _) (Nat.zero_add _)
theorem law_RecordOk (r : Record) : n_impl_RecordOk r = n_spec_RecordOk r := by
  simp only [n_impl_RecordOk, n_spec_RecordOk, law_NameOk, law_isText]
  rfl
theorem any_Record (xs : List Record) (p : Record → Bool) : n_slices_ContainsFunc_Record xs p = xs.any p := by
  have := loop_idx (p := p) (xs := xs) (f := n_slices_IndexFunc_RecordL1 xs p) (fun n i => rfl) (xs.length + 1) 0 (Nat.zero_le _) (Nat.zero_add _)
  rw [List.drop_zero] at this
  exact this
theorem spec_l7List_eq (l : List Record) : n_spec_l7List l = (l.all n_spec_RecordOk && decide ((l.length : Int) ≤ 8)) := by
  have := loop_all (q := n_spec_RecordOk) (d := decide ((l.length : Int) ≤ 8)) (xs := l) (f := n_spec_l7ListL1 l) (fun n i => rfl) (l.length + 1) 0 (Nat.zero_le _) (Nat.zero_add _)
  rw [List.drop_zero] at this
  exact this
theorem impl_allOk_eq (l : List Record) (m : Int) : n_impl_allOk l m = (decide ((l.length : Int) ≤ m) && l.all n_spec_RecordOk) := by
  simp only [n_impl_allOk, any_Record, n_impl_allOk_c1, law_RecordOk, all_not_any]
  cases decide ((l.length : Int) ≤ m) <;> rfl
theorem law_ExchOk (x : Exch) : n_impl_ExchOk x = n_spec_ExchOk x := rfl
theorem tr2_n_impl_TypeOk (a0 : Int)  : Tr Tryd.prog 87 [.ro ⟨false, [dI (a0)]⟩] [⟨false, [dB ((n_spec_TypeOk a0))]⟩] := by
  have := tr_n_impl_TypeOk a0  
  rwa [law_TypeOk a0] at this
theorem tr2_n_impl_QuestOk (a0 : Quest) (h0 : Quest.Fit a0) : Tr Tryd.prog 42 [.ro ⟨true, [dS (a0.Name), dI (a0.Typ)]⟩] [⟨false, [dB ((n_spec_QuestOk a0))]⟩] := by
  have := tr_n_impl_QuestOk a0 h0 
  rwa [law_QuestOk a0] at this
theorem tr2_n_impl_RecordOk (a0 : Record) (h0 : Record.Fit a0) : Tr Tryd.prog 90 [.ro ⟨true, [dS (a0.Name), dI (a0.Typ), dI (a0.Ttl), dI (a0.N), dS (a0.Host), dS (a0.Text)]⟩] [⟨false, [dB ((n_spec_RecordOk a0))]⟩] := by
  have := tr_n_impl_RecordOk a0 h0 
  rwa [law_RecordOk a0] at this
theorem tr2_n_impl_ExchOk (a0 : Exch) (h0 : Exch.Fit a0) : Tr Tryd.prog 46 [.ro ⟨true, [dI (a0.Id), dI (a0.Addr), dI (a0.Try), dI (a0.Due)]⟩] [⟨false, [dB ((n_spec_ExchOk a0))]⟩] := by
  have := tr_n_impl_ExchOk a0 h0 
  rwa [law_ExchOk a0] at this
end Go.Proofs.YtkcpbahcnlhmjaaDoor.V
